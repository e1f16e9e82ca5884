import Derived.Test.YthnhbemmlfaihaaR13
import Derived.WalkKit
set_option linter.unusedVariables false
set_option linter.unusedSimpArgs false
set_option maxRecDepth 10000
set_option maxHeartbeats 64000000
namespace Go.Proofs.Pk
open Go Go.Vc
structure ec where
 kind:Int
 i:Int
 bit:Int
 deriving DecidableEq
structure Gate where
 op:Int
 a:Int
 b:Int
 c:Int
 n:Int
 deriving DecidableEq
structure Cell where
 ins:List Int
 table:Int
 ew:Int
structure Block where
 ins:List Int
 table:Int
 ew:Int
 cK:Int
 key:Int
structure Net where
 ins:List ec
 cg:List Gate
 outs:List ec
 bf:List Int
structure dM where
 n:Int
 cells:List Cell
 bf:List Int
structure ej where
 ins:List ec
 blocks:List Block
 outs:List ec
 bf:List Int
inductive Expr where
 | mk (op k w:Int) (args:List Expr)
def Expr.op:Expr->Int|.mk o _ _ _=>o
def Expr.k:Expr->Int|.mk _ k _ _=>k
def Expr.w:Expr->Int|.mk _ _ w _=>w
def Expr.args:Expr->List Expr|.mk _ _ _ l=>l
structure OC where
 kind:Int
 src:ByteArray
 n:Int
structure PW where
 name:ByteArray
 w:Int
 init:Int
 next:Expr
 OD:OC
structure Mem where
 name:ByteArray
 w:Int
 words:Int
 en:Expr
 ad:Expr
 da:Expr
 OD:OC
structure Take where
 chan:Int
 w:Int
 cond:Expr
structure PX where
 chan:Int
 w:Int
 cond:Expr
 data:Expr
structure Head where
 has:Bool
 v:Int
structure VK where
 yx:List Int
 yy:List (List Int)
structure Source where
 kind:Int
 n:Int
 deriving DecidableEq
structure Part where
 ins:List Source
 table:Int
 ew:Int
 cK:Int
abbrev fX (l:List Int):Prop:=l.Pairwise (· < ·)
theorem fX.nodup {l:List Int} (h:fX l):l.Nodup:=h.imp λgx e=>by omega
theorem fX.ext:∀{l k:List Int},fX l->fX k->(∀x,x∈l↔x∈k)->l=k
 | [],[],_,_,_=>rfl
 | [],y :: k,_,_,h=>absurd ((h y).2 (by simp)) (by simp)
 | x :: l,[],_,_,h=>absurd ((h x).1 (by simp)) (by simp)
 | x :: l,y :: k,hl,hk,h=>by
  have iJ:=eX.1 hl
  have fL:=eX.1 hk
  have e:x=y:=by
   rcases cx.1 ((h x).1 (by simp)) with e|e
   ·exact e
   ·rcases cx.1 ((h y).2 (by simp)) with e'|e'
    ·exact e'.symm
    ·have:=fL.1 x e;have:=iJ.1 y e';omega
  subst e
  rw [fX.ext iJ.2 fL.2 λz=>?_]
  have hz:=h z
  simp only [cx] at hz
  constructor
  ·intro hm
   rcases hz.1 (.inr hm) with e|e
   ·subst e;exact absurd (iJ.1 z hm) (by omega)
   ·exact e
  ·intro hm
   rcases hz.2 (.inr hm) with e|e
   ·subst e;exact absurd (fL.1 z hm) (by omega)
   ·exact e
def dX:List Int->List Int
 | []=>[]
 | [x]=>[x]
 | x :: y :: r=>if x=y then dX (y :: r) else x :: dX (y :: r)
theorem HS:∀{l:List Int} {x:Int},x∈dX l↔x∈l
 | [],x=>by simp [dX]
 | [y],x=>by simp [dX]
 | y :: z :: r,x=>by
  unfold dX
  split
  ·rename_i e;subst e;rw [HS];simp
  ·rw [cx,HS];simp
theorem Mo:∀{l:List Int},l.Pairwise (·<=·)->fX (dX l)
 | [],_=>.nil
 | [y],_=>by simp [dX]
 | y :: z :: r,h=>by
  have h':=eX.1 h
  unfold dX
  split
  ·exact Mo h'.2
  ·rename_i bL
   refine eX.2 ⟨λx hx=>?_,Mo h'.2⟩
   rw [HS] at hx
   have h1:=h'.1 z (by simp)
   rcases cx.1 hx with rfl|hx
   ·omega
   ·have:=(eX.1 h'.2).1 x hx;omega
def uY (x:Int):List Int->List Int
 | []=>[x]
 | y :: r=>if x < y then x :: y :: r else if x=y then y :: r else y :: uY x r
theorem MP {x z:Int}:∀{l:List Int},z∈uY x l↔z=x\/z∈l
 | []=>by simp [uY]
 | y :: r=>by
  unfold uY
  split
  ·simp
  ·split
   ·rename_i e;subst e;simp
   ·simp only [cx,MP (l:=r)]
    constructor
    ·rintro (h|h|h)<;>simp [h]
    ·rintro (h|h|h)<;>simp [h]
theorem Ui {x:Int}:∀{l:List Int},fX l->fX (uY x l)
 | [],_=>by simp [uY]
 | y :: r,h=>by
  have h':=eX.1 h
  unfold uY
  split
  ·refine eX.2 ⟨λz hz=>?_,h⟩
   rcases cx.1 hz with rfl|hz
   ·assumption
   ·have:=h'.1 z hz;omega
  ·split
   ·exact h
   ·refine eX.2 ⟨λz hz=>?_,Ui h'.2⟩
    rcases MP.1 hz with rfl|hz
    ·omega
    ·exact h'.1 z hz
def jX (a b:List Int):List Int:=(a++b).foldr uY []
theorem Ri {z:Int}:∀{l:List Int},z∈l.foldr uY []↔z∈l
 | []=>by simp
 | y :: r=>by rw [List.foldr_cons,MP,Ri,cx]
theorem Rj:∀l:List Int,fX (l.foldr uY [])
 | []=>.nil
 | y :: r=>Ui (Rj r)
theorem DU {a b:List Int} {z:Int}:z∈jX a b↔z∈a\/z∈b:=by unfold jX;rw [Ri,eE]
theorem Lr (a b:List Int):fX (jX a b):=Rj _
theorem acM {a b l:List Int} (h:l.Pairwise (·<=·)) (hp:l.Perm (a++b)):dX l=jX a b :=
 (Mo h).ext (Lr a b) λx=>by rw [HS,DU,hp.mem_iff,eE]
def dx (a b:List Int):Bool:=a.all λx=>b.contains x
theorem p9 {a b:List Int}:dx a b=true↔∀x∈a,x∈b:=by simp [dx]
def lh (l:List (List Int)) (x:List Int):List (List Int):=if l.any (λy=>dx y x) then l else l.filter (λy=>!dx x y)++[x]
abbrev Jt (L:List (List Int)):Prop:=L.Pairwise λa b=>dx a b=false/\dx b a=false
theorem Ls {a b c:List Int} (h:dx a b=true) (k:dx b c=true):dx a c=true:=by rw [p9] at *;exact λx hx=>k x (h x hx)
theorem acN (a:List Int):dx a a=true:=p9.2 λ_ h=>h
structure si (F R:List (List Int)):Prop where
 mem:∀r∈R,r∈F
 all:∀u∈F,∃r∈R,dx r u=true
 wA:Jt R
theorem si.nil:si [] []:=⟨by simp,by simp,.nil⟩
theorem si.add {F R:List (List Int)} (h:si F R) (u:List Int):si (F++[u]) (lh R u):=by
 unfold lh
 split
 ·rename_i hs
  obtain ⟨y,hy,hs⟩:=HG.1 hs
  refine ⟨λr hr=>uB _ (h.mem r hr),λv hv=>?_,h.wA⟩
  rcases eE.1 hv with hv|hv
  ·exact h.all v hv
  ·simp at hv;subst hv;exact ⟨y,hy,hs⟩
 ·rename_i hs
  have hs:∀y∈R,dx y u=false:=λy hy=>by
   have:=(List.any_eq_false.1 (Bool.not_eq_true _ ▸ hs)) y hy
   simpa using this
  refine ⟨λr hr=>?_,λv hv=>?_,?_⟩
  ·rcases eE.1 hr with hr|hr
   ·exact uB _ (h.mem r (lD.1 hr).1)
   ·exact xH _ hr
  ·rcases eE.1 hv with hv|hv
   ·obtain ⟨r,hr,CW⟩:=h.all v hv
    cases hq:dx u r with
    | false=>exact ⟨r,uB _ (lD.2 ⟨hr,by simp [hq]⟩),CW⟩
    | true=>exact ⟨u,by simp,Ls hq CW⟩
   ·simp at hv;subst hv;exact ⟨v,by simp,acN v⟩
  ·refine kq.2 ⟨h.wA.filter _,by simp,λa ha b hb=>?_⟩
   simp at hb;subst hb
   obtain ⟨Db,rv⟩:=lD.1 ha
   exact ⟨hs a Db,by simpa using rv⟩
theorem si.fold {F R:List (List Int)} (h:si F R):∀L:List (List Int),si (F++L.filter λu=>decide (u.length<=4)) (L.foldl (λnext u=>if u.length<=4 then lh next u else next) R)
 | []=>by simpa using h
 | u :: L=>by
  rw [mA]
  by_cases hu:u.length<=4
  ·rw [if_pos hu,LD (by simpa using hu)]
   have:=si.fold (h.add u) L
   rwa [tq] at this
  ·rw [if_neg hu,SK (by simpa using hu)]
   exact si.fold h L
def ku (op:Int):Nat:=if op=1 then 1 else if op=2\/op=3\/op=4 then 2 else 3
def cR (g:Gate):List Int:=[g.a,g.b,g.c].take (ku g.op)
theorem adR {g:Gate} {o:Int} (h:o∈cR g):o=g.a\/o=g.b\/o=g.c:=by simpa using vQ h
theorem zz (g:Gate):1<=(cR g).length/\(cR g).length<=3:=by
 unfold cR ku
 split
 ·simp
 ·split<;>simp
structure Gh (lim:Int) (g:Gate):Prop where
 op:1<=g.op/\g.op<=7
 a:0<=g.a/\g.a < lim
 b:0<=g.b/\g.b < lim
 c:0<=g.c/\g.c < lim
 n:0<=g.n/\g.n < 64
structure cI (I:Nat) (gs:List Gate):Prop where
 o9:2+I+gs.length<=600
 cg:∀(i:Nat) (g:Gate),gs[i]?=some g->Gh (2+I+i) g
theorem cI.ops {I:Nat} {gs:List Gate} (h:cI I gs) {i:Nat} {g:Gate} (hg:gs[i]?=some g):∀o∈cR g,0<=o/\o < 2+I+i:=λo ho=>by
 have k:=h.cg i g hg
 rcases adR ho with rfl|rfl|rfl
 ·exact k.a
 ·exact k.b
 ·exact k.c
inductive gK (I:Nat) (gs:List Gate) (S:Int->Prop):Int->Prop
 | mem {v:Int}:S v->gK I gs S v
 | const {v:Int}:0<=v->v < 2->gK I gs S v
 | gate {i:Nat} {g:Gate}:gs[i]?=some g->g.op≠7->(∀o∈cR g,gK I gs S o)->gK I gs S (2+I+i)
theorem gK.mono {I:Nat} {gs:List Gate} {S T:Int->Prop} (h:∀x,S x->T x) {v:Int} (k:gK I gs S v):gK I gs T v:=by
 induction k with
 | mem h1=>exact .mem (h _ h1)
 | const h1 h2=>exact .const h1 h2
 | gate h1 h2 _ ih=>exact .gate h1 h2 ih
theorem gK.inv {I:Nat} {gs:List Gate} {S:Int->Prop} {i:Nat} {g:Gate} (hg:gs[i]?=some g) (k:gK I gs S (2+I+i)) (hn:¬S (2+I+i)):g.op≠7/\∀o∈cR g,gK I gs S o:=by
 generalize hv:(2+(I:Int)+i)=v at k
 cases k with
 | mem h1=>rw [hv] at hn;exact absurd h1 hn
 | const h1 h2=>omega
 | gate h1 h2 h3 =>
  rename_i j g'
  have:j=i:=by omega
  subst this
  rw [hg] at h1;cases h1
  exact ⟨h2,h3⟩
theorem gK.input {I:Nat} {gs:List Gate} {S:Int->Prop} {v:Int} (h:2<=v) (h':v < 2+I) (k:gK I gs S v):S v:=by
 cases k with
 | mem h1=>exact h1
 | const h1 h2=>omega
 | gate h1 h2 h3=>omega
theorem gK.more {I:Nat} {gs hs:List Gate} {S:Int->Prop} {v:Int} (k:gK I gs S v):gK I (gs++hs) S v:=by
 induction k with
 | mem h1=>exact .mem h1
 | const h1 h2=>exact .const h1 h2
 | gate h1 h2 _ ih=>exact .gate (by rw [iY (bh.1 h1).1];exact h1) h2 ih
structure oC (Q:(Int->Prop)->Prop) (m:Int) (C:List (List Int)):Prop where
 inc:∀c∈C,fX c
 len:∀c∈C,c.length<=4
 lim:∀c∈C,∀x∈c,2<=x/\x < m
 cut:∀c∈C,Q (·∈c)
 all:∀S:List Int,S.length<=4->Q (·∈S)->∃c∈C,dx c S=true
 wA:Jt C
theorem fX.afW {c S:List Int} (h:fX c) (hs:dx c S=true):c.length<=S.length:=BI h.nodup (p9.1 hs)
def qj (all cs:List (List Int)):List (List Int):=(all.flatMap λa=>cs.map λb=>jX a b).foldl (λnext u=>if u.length<=4 then lh next u else next) []
theorem oC.step {Q Q':(Int->Prop)->Prop} {m:Int} {A C:List (List Int)} (hA:oC Q m A) (hC:oC Q' m C) (mono:∀S T:Int->Prop,(∀x,S x->T x)->Q S->Q T) (ahy:∀S T:Int->Prop,(∀x,S x->T x)->Q' S->Q' T) :
  oC (λS=>Q S/\Q' S) m (qj A C):=by
 have M:=si.fold si.nil (A.flatMap λa=>C.map λb=>jX a b)
 have sh:∀r∈qj A C,∃a∈A,∃b∈C,r=jX a b/\r.length<=4:=λr hr=>by
  have h:=M.mem r hr
  rw [uC,lD,D9] at h
  obtain ⟨⟨a,ha,h⟩,hl⟩:=h
  obtain ⟨b,hb,rfl⟩:=jW.1 h
  exact ⟨a,ha,b,hb,rfl,by simpa using hl⟩
 refine ⟨λr hr=>?_,λr hr=>?_,λr hr x hx=>?_,λr hr=>?_,λS hS hq=>?_,M.wA⟩
 ·obtain ⟨a,ha,b,hb,rfl,_⟩:=sh r hr
  exact Lr a b
 ·obtain ⟨a,ha,b,hb,_,hl⟩:=sh r hr
  exact hl
 ·obtain ⟨a,ha,b,hb,rfl,_⟩:=sh r hr
  rcases DU.1 hx with hx|hx
  ·exact hA.lim a ha x hx
  ·exact hC.lim b hb x hx
 ·obtain ⟨a,ha,b,hb,rfl,_⟩:=sh r hr
  exact ⟨mono _ _ (λx hx=>DU.2 (.inl hx)) (hA.cut a ha),ahy _ _ (λx hx=>DU.2 (.inr hx)) (hC.cut b hb)⟩
 ·obtain ⟨a,ha,has⟩:=hA.all S hS hq.1
  obtain ⟨b,hb,Pj⟩:=hC.all S hS hq.2
  have hu:dx (jX a b) S=true:=p9.2 λx hx=>by
   rcases DU.1 hx with hx|hx
   ·exact p9.1 has x hx
   ·exact p9.1 Pj x hx
  have hl:=(Lr a b).afW hu
  obtain ⟨r,hr,hrs⟩:=M.all (jX a b) (by
   rw [uC,lD,D9]
   exact ⟨⟨a,ha,jW.2 ⟨b,hb,rfl⟩⟩,by simpa using nj hl hS⟩)
  exact ⟨r,hr,Ls hrs hu⟩
def fI:List Int->List Int->Int
 | [],[]=>0
 | [],_ :: _=>-1
 | _ :: _,[]=>1
 | x :: a,y :: b=>if x < y then -1 else if y < x then 1 else fI a b
def iG (a b:List Int):Int:=if a.length < b.length then -1 else if b.length < a.length then 1 else fI a b
theorem U7:∀{a b:List Int},fI a b=0->a=b
 | [],[],_=>rfl
 | [],_ :: _,h=>by simp [fI] at h
 | _ :: _,[],h=>by simp [fI] at h
 | x :: a,y :: b,h=>by
  unfold fI at h
  split at h
  ·simp at h
  ·split at h
   ·simp at h
   ·rw [U7 h,show x=y by omega]
theorem Th:∀a:List Int,fI a a=0
 | []=>rfl
 | x :: a=>by unfold fI;rw [if_neg (by omega),if_neg (by omega)];exact Th a
theorem Uj:∀a b:List Int,fI b a=- fI a b
 | [],[]=>rfl
 | [],_ :: _=>rfl
 | _ :: _,[]=>rfl
 | x :: a,y :: b=>by
  unfold fI
  by_cases h1:x < y
  ·rw [if_neg (by omega),if_pos h1,if_pos h1];rfl
  ·by_cases h2:y < x
   ·rw [if_pos h2,if_neg h1,if_pos h2]
   ·rw [if_neg h2,if_neg h1,if_neg h1,if_neg h2];exact Uj a b
theorem Ss:∀{a b c:List Int},fI a b < 0->fI b c < 0->fI a c < 0
 | [],[],_,h,_=>by simp [fI] at h
 | [],_ :: _,[],_,h=>by simp [fI] at h
 | [],_ :: _,_ :: _,_,_=>by simp [fI]
 | _ :: _,[],_,h,_=>by simp [fI] at h
 | _ :: _,_ :: _,[],_,h=>by simp [fI] at h
 | x :: a,y :: b,z :: c,h,k=>by
  unfold fI at h k ⊢
  split at h
  ·split at k
   ·rw [if_pos (by omega)];decide
   ·split at k
    ·simp at k
    ·rw [if_pos (by omega)];decide
  ·split at h
   ·simp at h
   ·split at k
    ·rw [if_pos (by omega)];decide
    ·split at k
     ·simp at k
     ·rw [if_neg (by omega),if_neg (by omega)];exact Ss h k
theorem M7 {a b:List Int} (h:iG a b=0):a=b:=by
 unfold iG at h
 split at h
 ·simp at h
 ·split at h
  ·simp at h
  ·exact U7 h
theorem BQ (a b:List Int):iG b a=- iG a b:=by
 unfold iG
 by_cases h1:a.length < b.length
 ·rw [if_neg (by omega),if_pos h1,if_pos h1];rfl
 ·by_cases h2:b.length < a.length
  ·rw [if_pos h2,if_neg h1,if_pos h2]
  ·rw [if_neg h2,if_neg h1,if_neg h1,if_neg h2];exact Uj a b
theorem Su {a b c:List Int} (h:iG a b < 0) (k:iG b c < 0):iG a c < 0:=by
 unfold iG at *
 split at h
 ·split at k
  ·rw [if_pos (by omega)];decide
  ·split at k
   ·simp at k
   ·rw [if_pos (by omega)];decide
 ·split at h
  ·simp at h
  ·split at k
   ·rw [if_pos (by omega)];decide
   ·split at k
    ·simp at k
    ·rw [if_neg (by omega),if_neg (by omega)];exact Ss h k
theorem Ru {a b c:List Int} (h:iG a b<=0) (k:iG b c<=0):iG a c<=0:=by
 rcases Int.lt_or_eq_of_le h with h|h
 ·rcases Int.lt_or_eq_of_le k with k|k
  ·exact Int.le_of_lt (Su h k)
  ·rw [<-M7 k];omega
 ·rw [M7 h];exact k
def As (x:List Int):List (List Int)->List (List Int)
 | []=>[x]
 | y :: r=>if iG x y<=0 then x :: y :: r else y :: As x r
def ov (L:List (List Int)):List (List Int):=L.foldr As []
theorem Mp (x:List Int):∀L:List (List Int),(As x L).Perm (x :: L)
 | []=>.refl _
 | y :: r=>by
  unfold As
  split
  ·exact .refl _
  ·exact ((Mp x r).cons y).trans (.swap x y r)
theorem xw:∀L:List (List Int),(ov L).Perm L
 | []=>.refl _
 | y :: r=>(Mp y (ov r)).trans ((xw r).cons y)
abbrev Kg (L:List (List Int)):Prop:=L.Pairwise λa b=>iG a b<=0
theorem Uk (x:List Int):∀{L:List (List Int)},Kg L->Kg (As x L)
 | [],_=>by simp [As]
 | y :: r,h=>by
  have h':=eX.1 h
  unfold As
  split
  ·rename_i wS
   refine eX.2 ⟨λz hz=>?_,h⟩
   rcases cx.1 hz with rfl|hz
   ·exact wS
   ·exact Ru wS (h'.1 z hz)
  ·rename_i wS
   refine eX.2 ⟨λz hz=>?_,Uk x h'.2⟩
   rcases cx.1 ((Mp x r).mem_iff.1 hz) with rfl|hz
   ·rw [BQ];omega
   ·exact h'.1 z hz
theorem Mq:∀L:List (List Int),Kg (ov L)
 | []=>.nil
 | y :: r=>Uk y (Mq r)
theorem adS {L R:List (List Int)} (hp:R.Perm L) (hs:Kg R):R=ov L :=
 List.Perm.eq_of_pairwise (λa b _ _ h k=>M7 (by rw [BQ] at k;omega)) hs (Mq L) (hp.trans (xw L).symm)
theorem acO {L:List (List Int)} {x y:List Int} {r:List (List Int)} (h:ov L=x :: r) (hy:y∈L):x.length<=y.length:=by
 have hs:=Mq L
 have hm:=(xw L).mem_iff.2 hy
 rw [h] at hs hm
 rcases cx.1 hm with rfl|hm
 ·exact fT _
 ·have:=(eX.1 hs).1 y hm
  unfold iG at this
  split at this
  ·omega
  ·split at this
   ·simp at this
   ·omega
def cd (L l:List Int):Int:=l.foldl (λm v=>max m (L.getD v.toNat 0)) 0
theorem Lt (L:List Int):∀(l:List Int) (m:Int),m<=l.foldl (λm v=>max m (L.getD v.toNat 0)) m/\∀v∈l,L.getD v.toNat 0<=l.foldl (λm v=>max m (L.getD v.toNat 0)) m
 | [],m=>⟨n7 _,by simp⟩
 | x :: r,m=>by
  have h:=Lt L r (max m (L.getD x.toNat 0))
  rw [mA]
  refine ⟨by omega,λv hv=>?_⟩
  rcases cx.1 hv with rfl|hv
  ·omega
  ·exact h.2 v hv
theorem HT {L l:List Int} {v:Int} (h:v∈l):L.getD v.toNat 0<=cd L l:=(Lt L l 0).2 v h
theorem xO (L l:List Int):0<=cd L l:=(Lt L l 0).1
theorem xD {L:List Int}:∀{l:List Int} {m M:Int},m<=M->(∀v∈l,L.getD v.toNat 0<=M)->l.foldl (λm v=>max m (L.getD v.toNat 0)) m<=M
 | [],m,M,h,_=>h
 | x :: r,m,M,h,k=>by
  rw [mA]
  exact xD (by have:=k x (by simp);omega) λv hv=>k v (by simp [hv])
theorem aci {L a b:List Int} (h:dx a b=true):cd L a<=cd L b:=xD (xO L b) λv hv=>HT (p9.1 h v hv)
def iQ (f:List Int->Int):List Int->List (List Int)->List Int
 | m,[]=>m
 | m,x :: r=>if f x - f m < 0 then iQ f x r else iQ f m r
theorem Ek {f:List Int->Int}:∀{r:List (List Int)} {m:List Int},iQ f m r∈m :: r
 | [],m=>by simp [iQ]
 | x :: r,m=>by
  unfold iQ
  split
  ·exact rR _ Ek
  ·rcases cx.1 (Ek (f:=f) (r:=r) (m:=m)) with h|h<;>simp [h]
theorem Ul {f:List Int->Int}:∀{r:List (List Int)} {m:List Int},∀x∈m :: r,f (iQ f m r)<=f x
 | [],m=>by simp [iQ]
 | y :: r,m=>by
  intro x hx
  unfold iQ
  have h1:=λm=>Ul (f:=f) (r:=r) (m:=m)
  split
  ·have h2:=h1 y y (by simp)
   rcases cx.1 hx with rfl|hx
   ·omega
   ·exact h1 y x hx
  ·have h2:=h1 m m (by simp)
   rcases cx.1 hx with rfl|hx
   ·exact h2
   ·rcases cx.1 hx with rfl|hx
    ·omega
    ·exact h1 m x (rR _ hx)
structure dV where
 labels:List Int
 gv:List (List (List Int))
 leaves:List (List Int)
def n9 (C:List (List (List Int))) (ops:List Int):List (List Int):=ov (ops.foldl (λall o=>qj all (C.getD o.toNat [])) [[]])
def EU (v:Int):List (List Int)->List (List Int)
 | []=>[[v]]
 | x :: r=>if x.length=0 then x :: r else [v] :: x :: r
def j4 (I:Nat):dV:=⟨List.replicate (2+I) 0,[[[]],[[]]]++(List.range I).map (λk:Nat=>[[2+(k:Int)]]),List.replicate (2+I) []⟩
def uL (s:dV) (g:Gate):Option dV :=
 let v:Int:=s.labels.length
 if g.op=7 then some ⟨s.labels++[1+cd s.labels (cR g)],s.gv++[[[v]]],s.leaves++[cR g]⟩
 else match n9 s.gv (cR g) with
  | []=>none
  | x :: r=>if (EU v (x :: r)).length > 400 then none
   else some ⟨s.labels++[1+cd s.labels (iQ (cd s.labels) x r)],s.gv++[EU v (x :: r)],s.leaves++[iQ (cd s.labels) x r]⟩
def iS (I:Nat) (gs:List Gate):Option dV:=gs.foldl (λs g=>s.bind λs=>uL s g) (some (j4 I))
theorem HZ (I:Nat) (gs:List Gate) (g:Gate):iS I (gs++[g])=(iS I gs).bind λs=>uL s g:=by simp [iS,List.foldl_append]
abbrev lO (I:Nat) (gs:List Gate) (l:List Int) (S:Int->Prop):Prop:=∀o∈l,gK I gs S o
theorem oC.perm {Q:(Int->Prop)->Prop} {m:Int} {C D:List (List Int)} (h:oC Q m C) (hp:D.Perm C):oC Q m D :=
 ⟨λc hc=>h.inc c (hp.mem_iff.1 hc),λc hc=>h.len c (hp.mem_iff.1 hc),λc hc=>h.lim c (hp.mem_iff.1 hc),λc hc=>h.cut c (hp.mem_iff.1 hc),
  λS hS hq=>by obtain ⟨c,hc,hs⟩:=h.all S hS hq;exact ⟨c,hp.mem_iff.2 hc,hs⟩,hp.symm.pairwise h.wA λh=>⟨h.2,h.1⟩⟩
theorem oC.up {Q Q':(Int->Prop)->Prop} {m m':Int} {C:List (List Int)} (h:oC Q m C) (hm:m<=m') (hq:∀S,Q S↔Q' S):oC Q' m' C :=
 ⟨h.inc,h.len,λc hc x hx=>by have:=h.lim c hc x hx;omega,λc hc=>(hq _).1 (h.cut c hc),λS hS k=>h.all S hS ((hq _).2 k),h.wA⟩
structure lJ (I:Nat) (gs:List Gate) (s:dV):Prop where
 len:s.labels.length=2+I+gs.length
 CF:s.gv.length=2+I+gs.length
 o0:s.leaves.length=2+I+gs.length
 cut:∀(v:Nat) (C:List (List Int)),s.gv[v]?=some C->oC (λS=>gK I gs S v) (v+1) C/\C≠[]
 gy:∀C∈s.gv,C.length<=400
 zero:∀(v:Nat) (x:Int),v < 2+I->s.labels[v]?=some x->x=0
 pos:∀x∈s.labels,0<=x
 gW:∀(i:Nat) (l:List Int),s.leaves[2+I+i]?=some l->s.labels[2+I+i]?=some (1+cd s.labels l)
 lf:∀(i:Nat) (l:List Int) (g:Gate),s.leaves[2+I+i]?=some l->gs[i]?=some g->if g.op=7 then l=cR g else
  fX l/\l.length<=4/\(∀x∈l,2<=x/\x < 2+I+i)/\lO I gs (cR g) (·∈l)/\(∀S:List Int,S.length<=4->lO I gs (cR g) (·∈S)->dx S l=true->dx l S=true) /\
   ∀S:List Int,S.length<=4->lO I gs (cR g) (·∈S)->cd s.labels l<=cd s.labels S
theorem Mr {I:Nat} {gs:List Gate} (G:cI I gs) {s:dV} (h:lJ I gs s) {m:Nat} (hm:m<=2+I+gs.length) {l:List Int} (ho:∀o∈l,0<=o/\o < m):oC (lO I gs l) m (n9 s.gv l):=by
 suffices H:∀(l:List Int) (Q:(Int->Prop)->Prop) (A:List (List Int)),(∀S T:Int->Prop,(∀x,S x->T x)->Q S->Q T)->oC Q m A->(∀o∈l,0<=o/\o < m) ->
   oC (λS=>Q S/\lO I gs l S) m (l.foldl (λall o=>qj all (s.gv.getD o.toNat [])) A) by
  have h1:oC (λ_=>True) m [[]]:=⟨by simp,by simp,by simp,λ_ _=>trivial,λS _ _=>⟨[],by simp,by simp [dx]⟩,by simp⟩
  exact ((H l _ _ (λ_ _ _ _=>trivial) h1 ho).perm (xw _)).up (n7 _) λS=>by simp
 intro l
 induction l with
 | nil=>intro Q A _ hA _;exact hA.up (n7 _) λS=>by simp [lO]
 | cons o r ih =>
  intro Q A hQ hA ho
  obtain ⟨h0,h1⟩:=ho o (by simp)
  have aP:o.toNat < s.gv.length:=by rw [h.CF];omega
  have hC:=(h.cut o.toNat _ (dE aP)).1
  have e:s.gv.getD o.toNat []=s.gv[o.toNat]:=by rw [List.getD_eq_getElem?_getD,dE aP];rfl
  rw [mA,e]
  have hC':oC (λS=>gK I gs S o) m s.gv[o.toNat]:=hC.up (by omega) λS=>by rw [Int.toNat_of_nonneg h0]
  refine (ih _ _ ?_ (hA.step hC' hQ λS T Kh=>gK.mono Kh) λx hx=>ho x (by simp [hx])).up (n7 _) λS=>?_
  ·exact λS T Kh hq=>⟨hQ S T Kh hq.1,hq.2.mono Kh⟩
  ·constructor
   ·rintro ⟨⟨a,b⟩,c⟩
    refine ⟨a,λx hx=>?_⟩
    rcases cx.1 hx with rfl|hx
    ·exact b
    ·exact c x hx
   ·rintro ⟨a,b⟩
    exact ⟨⟨a,b o (by simp)⟩,λx hx=>b x (by simp [hx])⟩
theorem gK.less {I:Nat} {gs hs:List Gate} (G:cI I (gs++hs)) {S:Int->Prop} {v:Int} (k:gK I (gs++hs) S v) (hv:v < 2+I+gs.length):gK I gs S v:=by
 induction k with
 | mem h1=>exact .mem h1
 | const h1 h2=>exact .const h1 h2
 | @gate i g h1 h2 h3 ih =>
  have hi:i < gs.length:=by omega
  have h4:gs[i]?=some g:=by rw [iY hi] at h1;exact h1
  refine .gate h4 h2 λo ho=>ih o ho ?_
  have:=(G.ops h1 o ho).2
  omega
theorem gK.same {I:Nat} {gs hs:List Gate} (G:cI I (gs++hs)) {S:Int->Prop} {v:Int} (hv:v < 2+I+gs.length):gK I gs S v↔gK I (gs++hs) S v:=⟨gK.more,λh=>h.less G hv⟩
theorem lO.same {I:Nat} {gs hs:List Gate} (G:cI I (gs++hs)) {S:Int->Prop} {l:List Int} (hl:∀o∈l,o < 2+I+gs.length):lO I gs l S↔lO I (gs++hs) l S :=
 ⟨λh o ho=>(h o ho).more,λh o ho=>(h o ho).less G (hl o ho)⟩
theorem cI.left {I:Nat} {gs hs:List Gate} (G:cI I (gs++hs)):cI I gs :=
 ⟨by have:=G.o9;simp at this;omega,λi g h=>G.cg i g (by rw [iY (bh.1 h).1];exact h)⟩
theorem Hv {L l:List Int} {y:Int} (h:∀x∈l,x.toNat < L.length):cd (L++[y]) l=cd L l:=by
 unfold cd
 have:∀(l:List Int) (m:Int),(∀x∈l,x.toNat < L.length)->l.foldl (λm v=>max m ((L++[y]).getD v.toNat 0)) m=l.foldl (λm v=>max m (L.getD v.toNat 0)) m:=by
  intro l
  induction l with
  | nil=>intro m _;rfl
  | cons x r ih =>
   intro m h
   have hx:=h x (by simp)
   rw [mA,mA,ih _ λz hz=>h z (by simp [hz]),List.getD_eq_getElem?_getD,iY hx,<-List.getD_eq_getElem?_getD]
 exact this l 0 h
theorem RZ {L:List Int} {y:Int} (hy:0<=y) (l:List Int):cd L l<=cd (L++[y]) l:=by
 refine xD (xO _ l) λv hv=>xy ?_ (HT hv)
 rw [List.getD_eq_getElem?_getD,List.getD_eq_getElem?_getD,DZ]
 split
 ·exact n7 _
 ·rename_i h
  rw [l7 (by omega)]
  cases h2:[y][v.toNat - L.length]? with
  | none=>exact n7 _
  | some z =>
   have:=cN h2
   simp at this;subst this;exact hy
theorem acP (I:Nat):lJ I [] (j4 I):=by
 have hc:∀(v:Nat) (C:List (List Int)),(j4 I).gv[v]?=some C->(v < 2/\C=[[]])\/(2<=v/\v < 2+I/\C=[[(v:Int)]]):=by
  intro v C h
  match v,h with
  | 0,h=>simp [j4] at h;exact .inl ⟨by omega,h.symm⟩
  | 1,h=>simp [j4] at h;exact .inl ⟨by omega,h.symm⟩
  | v+2,h =>
   simp [j4] at h
   obtain ⟨k,h1,h2⟩:=h
   obtain ⟨h3,h4⟩:=bh.1 h1
   simp at h3 h4
   exact .inr ⟨by omega,by omega,by rw [<-h2,<-h4,show ((v+2:Nat):Int)=2+(v:Int) by omega]⟩
 refine ⟨by simp [j4],by simp [j4];omega,by simp [j4],λv C h=>?_,λC h=>?_,λv x _ h=>?_,λx h=>?_,λi l h=>?_,λi l g h hg=>by simp at hg⟩
 ·rcases hc v C h with ⟨hv,rfl⟩|⟨h1,h2,rfl⟩
  ·exact ⟨⟨by simp,by simp,by simp,λc hc=>.const (by omega) (by omega),λS _ _=>⟨[],by simp,by simp [dx]⟩,by simp⟩,by simp⟩
  ·refine ⟨⟨by simp,by simp,λc hc x hx=>?_,λc hc=>?_,λS _ hS=>⟨[(v:Int)],by simp,?_⟩,by simp⟩,by simp⟩
   ·simp at hc;subst hc;simp at hx;omega
   ·simp at hc;subst hc;exact .mem (by simp)
   ·rw [p9];intro x hx;simp at hx;subst hx;exact hS.input (by omega) (by omega)
 ·obtain ⟨v,hv⟩:=pW h
  rcases hc v C hv with ⟨_,rfl⟩|⟨_,_,rfl⟩<;>simp
 ·simp [j4,ux] at h;exact h.2.symm
 ·simp [j4] at h;omega
 ·exfalso
  have:=(bh.1 h).1
  simp [j4] at this
  omega
theorem adT {M:List (List Int)} (ha:Jt M) {x:List Int} {r:List (List Int)} (hM:M=x :: r) (hx:x.length=0):r=[]:=by
 subst hM
 cases r with
 | nil=>rfl
 | cons y r =>
  have:=((eX.1 ha).1 y (by simp)).1
  rw [gI hx] at this
  simp [dx] at this
theorem Ti (v:Int) (x:List Int) (r:List (List Int)):EU v (x :: r)=if x.length=0 then x :: r else [v] :: x :: r:=rfl
theorem ae1 {I:Nat} {gs:List Gate} {g:Gate} (G:cI I (gs++[g])) {s s':dV} (h:lJ I gs s) (e:uL s g=some s'):lJ I (gs++[g]) s':=by
 have G0:=G.left
 have hg:(gs++[g])[gs.length]?=some g:=by simp
 have Au:=G.ops hg
 have aP:∀o∈cR g,o < 2+(I:Int)+gs.length:=λo ho=>(Au o ho).2
 have key:∀(c:List (List Int)) (l:List Int),s'=⟨s.labels++[1+cd s.labels l],s.gv++[c],s.leaves++[l]⟩->(oC (λS=>gK I (gs++[g]) S (2+I+gs.length:Nat)) ((2+I+gs.length:Nat)+1) c/\c≠[])->c.length<=400 ->
   (∀x∈l,0<=x/\x < 2+(I:Int)+gs.length)->(if g.op=7 then l=cR g else fX l/\l.length<=4/\(∀x∈l,2<=x/\x < 2+(I:Int)+gs.length)/\lO I (gs++[g]) (cR g) (·∈l) /\
    (∀S:List Int,S.length<=4->lO I (gs++[g]) (cR g) (·∈S)->dx S l=true->dx l S=true)/\∀S:List Int,S.length<=4->lO I (gs++[g]) (cR g) (·∈S)->cd s.labels l<=cd s.labels S)->lJ I (gs++[g]) s':=by
  intro c l vg Ow hc4 hl bY
  subst vg
  have hy:0<=1+cd s.labels l:=by have:=xO s.labels l;omega
  refine ⟨by simp [h.len];omega,by simp [h.CF];omega,by simp [h.o0];omega,λv C hv=>?_,λC hC=>?_,λv x hv hx=>?_,λx hx=>?_,λi l' iJ=>?_,λi l' g' iJ kP=>?_⟩
  ·rw [DZ] at hv
   split at hv
   ·rename_i aP
    rw [h.CF] at aP
    obtain ⟨h1,h2⟩:=h.cut v C hv
    exact ⟨h1.up (n7 _) λS=>gK.same G (by omega),h2⟩
   ·rename_i aP
    have kD:v=2+I+gs.length:=by
     have:=(bh.1 hv).1
     rw [h.CF] at this aP
     simp at this;omega
    subst kD
    simp [h.CF] at hv
    subst hv
    exact Ow
  ·rcases eE.1 hC with hC|hC
   ·exact h.gy C hC
   ·simp at hC;subst hC;exact hc4
  ·rw [iY (by rw [h.len];omega)] at hx
   exact h.zero v x hv hx
  ·rcases eE.1 hx with hx|hx
   ·exact h.pos x hx
   ·simp at hx;omega
  ·by_cases hi:i < gs.length
   ·rw [iY (by rw [h.o0];omega)] at iJ
    rw [iY (by rw [h.len];omega),h.gW i l' iJ,Hv λx hx=>?_]
    rw [h.len]
    have pE:=dE hi
    have:=h.lf i l' _ iJ pE
    split at this
    ·subst this;have:=G0.ops pE x hx;omega
    ·have:=this.2.2.1 x hx;omega
   ·have dY:i=gs.length:=by
     have:=(bh.1 iJ).1
     simp [h.o0] at this;omega
    subst dY
    have e1:(s.leaves++[l])[2+I+gs.length]?=some l:=by rw [<-h.o0];simp
    have e2:(s.labels++[1+cd s.labels l])[2+I+gs.length]?=some (1+cd s.labels l):=by rw [<-h.len];simp
    simp only at iJ ⊢
    rw [e1] at iJ
    cases iJ
    rw [e2,Hv λx hx=>by rw [h.len];have:=hl x hx;omega]
  ·by_cases hi:i < gs.length
   ·rw [iY (by rw [h.o0];omega)] at iJ
    rw [iY hi] at kP
    have ff:∀o∈cR g',o < 2+(I:Int)+gs.length:=λo ho=>by have:=G0.ops kP o ho;omega
    have:=h.lf i l' g' iJ kP
    split at this
    ·rename_i h7;rw [if_pos h7];exact this
    ·rename_i h7
     rw [if_neg h7]
     obtain ⟨a1,a2,a3,a4,a5,a6⟩:=this
     refine ⟨a1,a2,a3,(lO.same G ff).1 a4,λS hS hq=>a5 S hS ((lO.same G ff).2 hq),λS hS hq=>?_⟩
     rw [Hv λx hx=>by rw [h.len];have:=a3 x hx;omega]
     exact xy (a6 S hS ((lO.same G ff).2 hq)) (RZ hy S)
   ·have dY:i=gs.length:=by
     have:=(bh.1 kP).1
     simp at this;omega
    subst dY
    rw [hg] at kP;cases kP
    have e1:(s.leaves++[l])[2+I+gs.length]?=some l:=by rw [<-h.o0];simp
    simp only at iJ
    rw [e1] at iJ
    cases iJ
    split at bY
    ·rename_i h7;rw [if_pos h7];exact bY
    ·rename_i h7
     rw [if_neg h7]
     obtain ⟨a1,a2,a3,a4,a5,a6⟩:=bY
     refine ⟨a1,a2,a3,a4,a5,λS hS hq=>?_⟩
     rw [Hv λx hx=>by rw [h.len];have:=a3 x hx;omega]
     exact xy (a6 S hS hq) (RZ hy S)
 have ji:((s.labels.length:Nat):Int)=2+(I:Int)+gs.length:=by rw [h.len];omega
 have Dc:(((2+I+gs.length:Nat)):Int)=2+(I:Int)+gs.length:=by omega
 unfold uL at e
 split at e
 ·rename_i h7
  cases e
  refine key _ _ rfl ⟨⟨by simp,by simp,λc hc x hx=>?_,λc hc=>?_,λS _ hS=>⟨_,qR.2 rfl,?_⟩,by simp⟩,by simp⟩ (by simp) Au (by rw [if_pos h7])
  ·simp only [qR] at hc;subst hc;simp only [qR] at hx;omega
  ·simp only [qR] at hc;subst hc;rw [Dc,<-ji];exact .mem (by simp)
  ·rw [p9]
   intro x hx
   simp only [qR] at hx
   subst hx
   rw [ji]
   rw [Dc] at hS
   by_cases hm:2+(I:Int)+gs.length∈S
   ·exact hm
   ·exact absurd h7 (hS.inv hg hm).1
 ·rename_i h7
  have hM:=Mr G0 h (m:=2+I+gs.length) (fT _) (l:=cR g) λo ho=>by have:=Au o ho;omega
  have hMq:∀S,lO I gs (cR g) S↔lO I (gs++[g]) (cR g) S:=λS=>lO.same G aP
  have hM:=hM.up (n7 _) hMq
  cases hm:n9 s.gv (cR g) with
  | nil=>rw [hm] at e;cases e
  | cons x r =>
   rw [hm] at e hM
   simp only at e
   split at e
   ·cases e
   ·rename_i arT
    cases e
    have fQ:=Ek (f:=cd s.labels) (r:=r) (m:=x)
    have Ju:=hM.lim _ fQ
    have kP:∀S,gK I (gs++[g]) S (2+I+gs.length:Nat)->¬S (2+(I:Int)+gs.length)->lO I (gs++[g]) (cR g) S:=λS hS hn=>by
     rw [Dc] at hS
     exact (hS.inv hg hn).2
    refine key _ _ rfl ⟨?_,?_⟩ (by omega) (λy hy=>by have:=Ju y hy;omega) (by
     rw [if_neg h7]
     refine ⟨hM.inc _ fQ,hM.len _ fQ,λy hy=>by have:=Ju y hy;omega,hM.cut _ fQ,λS hS hq Fo=>?_,λS hS hq=>?_⟩
     ·obtain ⟨c,hc,fv⟩:=hM.all S hS hq
      have jK:=Ls fv Fo
      by_cases nJ:c=iQ (cd s.labels) x r
      ·rw [<-nJ];exact fv
      ·have:=ae2 hM.wA hc fQ nJ
       rw [jK] at this;cases this
     ·obtain ⟨c,hc,fv⟩:=hM.all S hS hq
      exact xy (Ul c hc) (aci fv))
    ·rw [Ti]
     split
     ·rename_i h0
      have hr:=adT hM.wA rfl h0
      subst hr
      have hx:x=[]:=gI h0
      subst hx
      refine ⟨by simp,by simp,by simp,λc hc=>?_,λS _ _=>⟨[],by simp,by simp [dx]⟩,by simp⟩
      simp at hc;subst hc
      rw [Dc]
      exact .gate hg h7 (hM.cut [] (by simp))
     ·rename_i h0
      refine ⟨λc hc=>?_,λc hc=>?_,λc hc y hy=>?_,λc hc=>?_,λS hS hq=>?_,?_⟩
      ·rcases cx.1 hc with rfl|hc
       ·simp
       ·exact hM.inc c hc
      ·rcases cx.1 hc with rfl|hc
       ·simp
       ·exact hM.len c hc
      ·rcases cx.1 hc with rfl|hc
       ·simp only [qR] at hy;omega
       ·have:=hM.lim c hc y hy;omega
      ·rcases cx.1 hc with rfl|hc
       ·rw [Dc,<-ji];exact .mem (by simp)
       ·rw [Dc];exact .gate hg h7 (hM.cut c hc)
      ·by_cases hm:2+(I:Int)+gs.length∈S
       ·exact ⟨_,LS,by rw [p9];intro y hy;simp only [qR] at hy;subst hy;rw [ji];exact hm⟩
       ·obtain ⟨c,hc,fv⟩:=hM.all S hS (kP _ hq hm)
        exact ⟨c,rR _ hc,fv⟩
      ·refine eX.2 ⟨λc hc=>?_,hM.wA⟩
       have jK:=hM.lim c hc
       refine ⟨?_,?_⟩
       ·cases hq:dx [(s.labels.length:Int)] c with
        | false=>rfl
        | true=>have:=jK _ (p9.1 hq (s.labels.length:Int) (by simp));omega
       ·cases hq:dx c [(s.labels.length:Int)] with
        | false=>rfl
        | true =>
         cases c with
         | nil =>
          have:=acO hm ((xw _).mem_iff.1 (show []∈ov _ by show []∈n9 s.gv (cR g);rw [hm];exact hc))
          simp at this;exact absurd (by rw [this];rfl) h0
         | cons y c =>
          have h1:=p9.1 hq y (by simp)
          have h2:=jK y (by simp)
          simp at h1;omega
    ·rw [Ti];split<;>simp
where
 ae2 {L:List (List Int)} (h:Jt L) {a b:List Int} (ha:a∈L) (hb:b∈L) (bL:a≠b):dx a b=false:=by
  induction L with
  | nil=>cases ha
  | cons x r ih =>
   have h':=eX.1 h
   rcases cx.1 ha with e|ZY
   ·rcases cx.1 hb with e'|gF
    ·exact absurd (e.trans e'.symm) bL
    ·rw [e];exact (h'.1 b gF).1
   ·rcases cx.1 hb with e'|gF
    ·rw [e'];exact (h'.1 a ZY).2
    ·exact ih h'.2 ZY gF
theorem acQ {I:Nat} {gs:List Gate} {g:Gate} (G:cI I (gs++[g])) {s:dV} (h:lJ I gs s):n9 s.gv (cR g)≠[]:=by
 have Au:=G.ops (i:=gs.length) (g:=g) (by simp)
 have hM:=Mr G.left h (m:=2+I+gs.length) (fT _) (l:=cR g) λo ho=>by have:=Au o ho;omega
 obtain ⟨c,hc,_⟩:=hM.all (cR g) (by have:=(zz g).2;omega) λo ho=>.mem ho
 exact List.ne_nil_of_mem hc
theorem EL {I:Nat}:∀(n:Nat) {gs:List Gate} {s:dV},gs.length=n->cI I gs->iS I gs=some s->lJ I gs s
 | 0,gs,s,hn,_,h=>by
  have:=gI hn
  subst this
  simp [iS] at h;subst h;exact acP I
 | n+1,gs,s,hn,G,h=>by
  have bL:gs≠[]:=λe=>by rw [e] at hn;simp at hn
  have e:=List.dropLast_concat_getLast bL
  rw [<-e] at G h ⊢
  rw [HZ] at h
  cases h1:iS I gs.dropLast with
  | none=>rw [h1] at h;cases h
  | some s0=>rw [h1] at h;exact ae1 G (EL n (by simp [hn]) G.left h1) h
def wu (nd:List Bool) (l:List Int):List Bool:=l.foldl (λnd x=>nd.set x.toNat true) nd
def Cg (nx:Nat->List Int):Nat->List Bool->List Bool
 | 0,nd=>nd
 | v+1,nd=>Cg nx v (if nd.getD v false then wu nd (nx v) else nd)
inductive oH (nx:Nat->List Int) (S:Nat->Prop):Nat->Prop
 | base {v:Nat}:S v->oH nx S v
 | step {u:Nat} {x:Int}:oH nx S u->x∈nx u->oH nx S x.toNat
theorem oH.mono {nx:Nat->List Int} {S T:Nat->Prop} (h:∀v,S v->oH nx T v) {v:Nat} (k:oH nx S v):oH nx T v:=by
 induction k with
 | base h1=>exact h _ h1
 | step _ h2 ih=>exact .step ih h2
theorem HU:∀(l:List Int) (nd:List Bool),(wu nd l).length=nd.length
 | [],nd=>rfl
 | x :: r,nd=>by unfold wu;rw [mA];exact (HU r _).trans (by simp)
theorem xE:∀{l:List Int} {nd:List Bool} {v:Nat},(wu nd l)[v]?=some true↔nd[v]?=some true\/v < nd.length/\∃x∈l,x.toNat=v
 | [],nd,v=>by simp [wu]
 | x :: r,nd,v=>by
  unfold wu
  rw [mA]
  have h:=xE (l:=r) (nd:=nd.set x.toNat true) (v:=v)
  unfold wu at h
  rw [h,iN,pZ]
  by_cases e:x.toNat=v
  ·subst e
   by_cases hl:x.toNat < nd.length
   ·simp [hl]
   ·simp [hl]
  ·simp only [e,if_false,cx]
   constructor
   ·rintro (h|⟨h,y,hy,he⟩)
    ·exact .inl h
    ·exact .inr ⟨h,y,.inr hy,he⟩
   ·rintro (h|⟨h,y,hy|hy,he⟩)
    ·exact .inl h
    ·subst hy;exact absurd he e
    ·exact .inr ⟨h,y,hy,he⟩
theorem El {nd:List Bool} {v:Nat}:nd.getD v false=true↔nd[v]?=some true:=by
 rw [List.getD_eq_getElem?_getD]
 cases nd[v]? with
 | none=>simp
 | some b=>simp
theorem Ms {nx:Nat->List Int} (hx:∀(v:Nat) (x:Int),x∈nx v->0<=x/\x < v):∀(n:Nat) {nd:List Bool} {v:Nat},(∀u,n<=u->nd[u]?=some true->∀x∈nx u,nd[x.toNat]?=some true) ->
  ((Cg nx n nd)[v]?=some true↔v < nd.length/\oH nx (λu=>nd[u]?=some true) v)
 | 0,nd,v,hc=>by
  show nd[v]?=some true↔_
  refine ⟨λh=>⟨(bh.1 h).1,.base h⟩,λhh=>?_⟩
  have h:=hh.2
  clear hx hh
  induction h with
  | base h=>exact h
  | step h1 h2 ih=>exact hc _ (cP _) (ih) _ h2
 | n+1,nd,v,hc=>by
  unfold Cg
  rw [Ms hx n (λu hu hm x Ki=>?_)]
  ·split
   ·rename_i hn
    have hn:=El.1 hn
    rw [HU]
    refine and_congr_right λhv=>⟨λh=>h.mono λu hu=>?_,λh=>h.mono λu hu=>.base (xE.2 (.inl hu))⟩
    rcases xE.1 hu with hu|⟨_,x,hx,rfl⟩
    ·exact .base hu
    ·exact .step (.base hn) hx
   ·exact vO
  ·by_cases jz:u=n
   ·subst jz
    split at hm
    ·rename_i hn
     rw [if_pos hn]
     have:=hx u x Ki
     refine xE.2 (.inr ⟨?_,x,Ki,rfl⟩)
     have:=(bh.1 (El.1 hn)).1
     omega
    ·rename_i hn
     exact absurd (El.2 hm) hn
   ·split at hm
    ·rename_i hn
     rw [if_pos hn]
     have arU:n < u:=by omega
     rcases xE.1 hm with hm|⟨_,y,hy,he⟩
     ·exact xE.2 (.inl (hc u (by omega) hm x Ki))
     ·have:=hx n y hy;omega
    ·rename_i hn
     rw [if_neg hn]
     exact hc u (by omega) hm x Ki
def gJ (I:Nat) (gs:List Gate) (v:Nat):Option Gate:=if v < 2+I then none else gs[v - 2 - I]?
def sQ (I:Nat) (gs:List Gate) (S:List Int) (v:Nat):List Int:=if S.contains (v:Int) then [] else match gJ I gs v with
 | some g=>if g.op=7 then [] else cR g
 | none=>[]
def tE (I:Nat) (gs:List Gate) (S:List Int) (v:Nat):Bool:=S.contains (v:Int)||decide (v < 2)||match gJ I gs v with
 | some g=>decide (g.op≠7)
 | none=>false
def zR (I:Nat) (gs:List Gate) (root:Nat) (S:List Int):List Bool:=Cg (sQ I gs S) (root+1) ((List.replicate (root+1) false).set root true)
def qb (N root:Int) (S:List Int):Bool:=decide (2<=root/\root < N)&&decide (S.length<=4)&&S.all (λl=>decide (2<=l/\l<=root))&&decide (fX S)
def iE (I:Nat) (gs:List Gate) (root:Int) (S:List Int):Option (List Int) :=
 if qb (2+I+gs.length) root S then
  let R:=zR I gs root.toNat S
  if (List.range (root.toNat+1)).all (λv=>!R.getD v false||tE I gs S v)&&S.all (λx=>R.getD x.toNat false) then
   some (((List.range (root.toNat+1)).filter λv=>R.getD v false&&!S.contains (v:Int)&&decide (2<=v)).map λv:Nat=>(v:Int))
  else none
 else none
abbrev gE (I:Nat) (gs:List Gate) (S:List Int) (root v:Nat):Prop:=oH (sQ I gs S) (λu=>u=root) v
theorem pU {I:Nat} {gs:List Gate} {v:Nat} {g:Gate}:gJ I gs v=some g↔∃i,v=2+I+i/\gs[i]?=some g:=by
 unfold gJ
 split
 ·simp;intro i hi;omega
 ·constructor
  ·intro h;exact ⟨v - 2 - I,by omega,h⟩
  ·rintro ⟨i,rfl,h⟩
   rw [show 2+I+i - 2 - I=i by omega];exact h
theorem qU {I:Nat} {gs:List Gate} {S:List Int} {v:Nat} {x:Int}:x∈sQ I gs S v↔(v:Int)∉S/\∃g,gJ I gs v=some g/\g.op≠7/\x∈cR g:=by
 unfold sQ
 split
 ·rename_i h;simp at h;simp [h]
 ·rename_i h
  simp at h
  cases hg:gJ I gs v with
  | none=>simp
  | some g =>
   simp only
   split
   ·rename_i h7;simp [h7]
   ·rename_i h7;simp [h7,h]
theorem EV {I:Nat} {gs:List Gate} (G:cI I gs) {S:List Int} {v:Nat} {x:Int} (h:x∈sQ I gs S v):0<=x/\x < v:=by
 obtain ⟨_,g,hg,_,hx⟩:=qU.1 h
 obtain ⟨i,rfl,pE⟩:=pU.1 hg
 have:=G.ops pE x hx
 omega
theorem gE.le {I:Nat} {gs:List Gate} (G:cI I gs) {S:List Int} {root v:Nat} (h:gE I gs S root v):v<=root:=by
 induction h with
 | base h=>omega
 | step _ h2 ih=>have:=EV G h2;omega
theorem tj {I:Nat} {gs:List Gate} (G:cI I gs) {S:List Int} {root v:Nat}:(zR I gs root S).getD v false=true↔gE I gs S root v:=by
 rw [El]
 unfold zR
 have hs:∀u,((List.replicate (root+1) false).set root true)[u]?=some true↔u=root:=λu=>by
  rw [iN]
  by_cases e:root=u
  ·subst e;simp
  ·simp [e,ux];omega
 rw [Ms (λv x=>EV G) _ λu hu hm=>by have:=(hs u).1 hm;omega]
 constructor
 ·rintro ⟨_,h⟩;exact h.mono λu hu=>.base ((hs u).1 hu)
 ·intro h
  exact ⟨by have:=gE.le G h;simp;omega,h.mono λu hu=>.base ((hs u).2 hu)⟩
theorem zp {I:Nat} {gs:List Gate} {S:List Int} {v:Nat}:tE I gs S v=true↔(v:Int)∈S\/v < 2\/∃g,gJ I gs v=some g/\g.op≠7:=by
 unfold tE
 cases gJ I gs v<;>simp [or_assoc]
theorem Tj {I:Nat} {gs:List Gate} (G:cI I gs) {S:List Int}:∀(n root:Nat),root < n->(gK I gs (·∈S) root↔∀v,gE I gs S root v->tE I gs S v=true)
 | 0,_,h=>by omega
 | n+1,root,hn=>by
  constructor
  ·intro h v hv
   generalize hr:(root:Int)=r at h
   have main:∀(r:Int),gK I gs (·∈S) r->∀root:Nat,(root:Int)=r->∀v,gE I gs S root v->tE I gs S v=true:=by
    intro r h
    induction h with
    | mem h1 =>
     rintro root rfl v hv
     have:v=root:=by
      induction hv with
      | base h=>exact h
      | step _ h2 ih=>rw [ih] at h2;exact absurd h1 (qU.1 h2).1
     subst this
     exact zp.2 (.inl h1)
    | const h1 h2 =>
     rintro root rfl v hv
     have:=gE.le G hv
     exact zp.2 (.inr (.inl (by omega)))
    | @gate i g h1 h2 h3 ih =>
     intro root hr v hv
     have NV:root=2+I+i:=by omega
     subst NV
     have AT:gJ I gs (2+I+i)=some g:=pU.2 ⟨i,rfl,h1⟩
     have:v=2+I+i\/∃o∈cR g,gE I gs S o.toNat v:=by
      induction hv with
      | base h=>exact .inl h
      | step _ hx ihx =>
       rcases ihx with rfl|⟨o,ho,hr⟩
       ·obtain ⟨_,g',kP,_,jy⟩:=qU.1 hx
        rw [AT] at kP;cases kP
        exact .inr ⟨_,jy,.base rfl⟩
       ·exact .inr ⟨o,ho,.step hr hx⟩
     rcases this with rfl|⟨o,ho,hr⟩
     ·exact zp.2 (.inr (.inr ⟨g,AT,h2⟩))
     ·exact ih o ho o.toNat (by have:=G.ops h1 o ho;omega) v hr
   exact main r h root hr v hv
  ·intro h
   rcases zp.1 (h root (.base rfl)) with h1|h1|⟨g,hg,h7⟩
   ·exact .mem h1
   ·exact .const (by omega) (by omega)
   ·by_cases hm:(root:Int)∈S
    ·exact .mem hm
    ·obtain ⟨i,rfl,pE⟩:=pU.1 hg
     have:((2+I+i:Nat):Int)=2+(I:Int)+i:=by omega
     rw [this]
     refine .gate pE h7 λo ho=>?_
     have hb:=G.ops pE o ho
     have fW:o∈sQ I gs S (2+I+i):=qU.2 ⟨hm,g,hg,h7,ho⟩
     rw [<-Int.toNat_of_nonneg hb.1]
     exact (Tj G n o.toNat (by omega)).2 λv hv=>h v (hv.mono λu hu=>by subst hu;exact .step (.base rfl) fW)
structure EW (N root:Int) (S:List Int):Prop where
 lo:2<=root
 hi:root < N
 len:S.length<=4
 mem:∀l∈S,2<=l/\l<=root
 inc:fX S
theorem zh {N root:Int} {S:List Int}:qb N root S=true↔EW N root S:=by
 unfold qb
 simp only [cu,decide_eq_true_eq,im]
 exact ⟨λ⟨⟨⟨h1,h2⟩,h3⟩,h4⟩=>⟨h1.1,h1.2,h2,h3,h4⟩,λh=>⟨⟨⟨⟨h.lo,h.hi⟩,h.len⟩,h.mem⟩,h.inc⟩⟩
theorem Sv {I:Nat} {gs:List Gate} (G:cI I gs) {root:Int} {S:List Int}:(iE I gs root S).isSome=true↔EW (2+I+gs.length) root S/\gK I gs (·∈S) root/\∀x∈S,gE I gs S root.toNat x.toNat:=by
 unfold iE
 split
 ·rename_i hl
  have hL:=zh.1 hl
  have hr:((root.toNat:Nat):Int)=root:=Int.toNat_of_nonneg (by have:=hL.lo;omega)
  have h1:(List.range (root.toNat+1)).all (λv=>!(zR I gs root.toNat S).getD v false||tE I gs S v)=true↔gK I gs (·∈S) root:=by
   rw [<-hr,Tj G (root.toNat+1) root.toNat (Nat.lt_succ_self _),hr,im]
   constructor
   ·intro h v hv
    have:=h v (mB.2 (by have:=gE.le G hv;omega))
    rw [tj G |>.2 hv] at this
    simpa using this
   ·intro h v _
    cases hq:(zR I gs root.toNat S).getD v false with
    | false=>simp
    | true=>simp [h v ((tj G).1 hq)]
  have h2:S.all (λx=>(zR I gs root.toNat S).getD x.toNat false)=true↔∀x∈S,gE I gs S root.toNat x.toNat:=by
   rw [im]
   exact ⟨λh x hx=>(tj G).1 (h x hx),λh x hx=>(tj G).2 (h x hx)⟩
  simp only
  rw [<-h1,<-h2]
  split
  ·rename_i h;simp only [cu] at h;exact ⟨λ_=>⟨hL,h⟩,λ_=>rfl⟩
  ·rename_i h;simp only [cu] at h;exact ⟨λh'=>(by cases h'),λh'=>absurd h'.2 h⟩
 ·rename_i hl
  have:¬EW (2+I+gs.length) root S:=λh=>hl (zh.2 h)
  simp [this]
theorem Em {I:Nat} {gs:List Gate} (G:cI I gs) {root:Int} {S l:List Int} (h:iE I gs root S=some l):fX l/\∀v:Int,v∈l↔2<=v/\gE I gs S root.toNat v.toNat/\v∉S:=by
 unfold iE at h
 split at h
 ·simp only at h
  split at h
  ·cases h
   refine ⟨?_,λv=>?_⟩
   ·unfold fX
    rw [pY]
    exact (BN.filter _).imp λh=>by omega
   ·rw [jW]
    constructor
    ·rintro ⟨u,hu,rfl⟩
     obtain ⟨h1,h2⟩:=lD.1 hu
     simp only [cu,nY,decide_eq_true_eq] at h2
     refine ⟨by omega,(tj G).1 h2.1.1,?_⟩
     simpa using h2.1.2
    ·rintro ⟨h1,h2,h3⟩
     have e:((v.toNat:Nat):Int)=v:=Int.toNat_of_nonneg (by omega)
     refine ⟨v.toNat,lD.2 ⟨mB.2 (by have:=gE.le (root:=root.toNat) (v:=v.toNat) G h2;omega),?_⟩,e⟩
     simp only [cu,nY,decide_eq_true_eq]
     exact ⟨⟨(tj G).2 h2,by rw [e];simpa using h3⟩,by omega⟩
  ·cases h
 ·cases h
def uG (j:Nat):Int:=([0xaaaa,0xcccc,0xf0f0,0xff00]:List Int).getD j 0
def tO (a b:Int):Int:=fJ .and .i64 a b
def AU (a b:Int):Int:=fJ .or .i64 a b
def CG (a b:Int):Int:=fJ .xor .i64 a b
def combineM (op a b c:Int):Int:=if op=1 then CG (-1) a else if op=2 then tO a b else if op=3 then AU a b else if op=4 then CG a b else
 if op=5 then AU (tO a b) (tO (CG (-1) a) c) else AU (AU (tO a b) (tO a c)) (tO b c)
def Ch (I:Nat) (gs:List Gate) (S:List Int) (f:Nat->Int) (v:Nat):Int:=match S.findIdx? (λx=>decide (x=(v:Int))) with
 | some j=>uG j
 | none=>if v=1 then -1 else match gJ I gs v with
  | some g=>combineM g.op (f g.a.toNat) (f g.b.toNat) (f g.c.toNat)
  | none=>0
def yb (I:Nat) (gs:List Gate) (S:List Int):Nat->List Int
 | 0=>[]
 | n+1=>let L:=yb I gs S n;L++[Ch I gs S (λu=>L.getD u 0) n]
def lq (I:Nat) (gs:List Gate) (S:List Int) (v:Nat):Int:=(yb I gs S (v+1)).getD v 0
theorem HV (I:Nat) (gs:List Gate) (S:List Int):∀n,(yb I gs S n).length=n
 | 0=>rfl
 | n+1=>by show (yb I gs S n++[_]).length=_;rw [fS,HV I gs S n];rfl
theorem H4 {I:Nat} {gs:List Gate} {S:List Int}:∀{n v:Nat},v < n->(yb I gs S n).getD v 0=lq I gs S v
 | 0,v,h=>by omega
 | n+1,v,h=>by
  by_cases e:v=n
  ·subst e;rfl
  ·rw [<-H4 (n:=n) (show v < n by omega)]
   show (yb I gs S n++[_]).getD v 0=_
   rw [List.getD_eq_getElem?_getD,iY (by rw [HV];omega),<-List.getD_eq_getElem?_getD]
theorem Ie (I:Nat) (gs:List Gate) (S:List Int) (v:Nat):lq I gs S v=Ch I gs S (λu=>(yb I gs S v).getD u 0) v:=by
 show (yb I gs S v++[_]).getD v 0=_
 rw [List.getD_eq_getElem?_getD,oL (by rw [HV];omega),HV,xx]
 rfl
theorem acR {I:Nat} {gs:List Gate} (G:cI I gs) {S:List Int} {v:Nat} (hS:(v:Int)∉S) {g:Gate} (hg:gJ I gs v=some g) :
  lq I gs S v=combineM g.op (lq I gs S g.a.toNat) (lq I gs S g.b.toNat) (lq I gs S g.c.toNat):=by
 obtain ⟨i,rfl,pE⟩:=pU.1 hg
 have k:=G.cg i g pE
 have h1:S.findIdx? (λx=>decide (x=((2+I+i:Nat):Int)))=none:=by
  rw [BL]
  intro x hx
  simp only [decide_eq_false_iff_not]
  rintro rfl
  exact hS hx
 rw [Ie]
 unfold Ch
 rw [h1]
 simp only [hg]
 rw [if_neg (by omega),H4 (by have:=k.a;omega),H4 (by have:=k.b;omega),H4 (by have:=k.c;omega)]
def B3 (I:Nat) (gs:List Gate) (root:Int) (S:List Int):Int:=tO (lq I gs S root.toNat) (2^(2^S.length) - 1)
def uZ (I:Nat) (gs:List Gate) (root:Int) (S:List Int):Int × Int:=match iE I gs root S with
 | none=>(0,250)
 | some _=>(B3 I gs root S,0)
def mG (sig:Int->Option Int):List Int->List Int × Bool
 | []=>([],true)
 | l :: r=>match sig l with
  | none=>([],false)
  | some s=>(s :: (mG sig r).1,(mG sig r).2)
theorem Hw {sig:Int->Option Int}:∀{l:List Int},(∀x∈l,∃s,sig x=some s)->mG sig l=(l.map λx=>(sig x).getD 0,true)
 | [],_=>rfl
 | x :: r,h=>by
  obtain ⟨s,hs⟩:=h x (by simp)
  simp only [mG,hs,Hw (l:=r) λy hy=>h y (by simp [hy]),gS,rT]
theorem Bu {sig:Int->Option Int}:∀{l:List Int},(mG sig l).2=true->∀x∈l,∃s,sig x=some s
 | [],_=>by simp
 | y :: r,h=>by
  intro x hx
  simp only [mG] at h
  cases hs:sig y with
  | none=>rw [hs] at h;cases h
  | some s =>
   rw [hs] at h
   rcases cx.1 hx with rfl|hx
   ·exact ⟨s,hs⟩
   ·exact Bu h x hx
def cellOf (I:Nat) (gs:List Gate) (root:Int) (S:List Int) (sig:Int->Option Int):Cell × Int :=
 if (
   mG sig S).2 then match gJ I gs root.toNat with
  | some g=>if g.op=7 then (⟨(mG sig S).1,0,g.n⟩,if S=cR g then 0 else 260)
   else if S=[root] then (⟨(mG sig S).1,0,-1⟩,260)
   else (⟨(mG sig S).1,(uZ I gs root S).1,-1⟩,if (uZ I gs root S).2=0 then 0 else 260)
  | none=>(⟨(mG sig S).1,0,-1⟩,260)
 else (⟨(mG sig S).1,0,-1⟩,260)
def eO (I:Nat) (roots:List Int) (v:Int):Option Int:=if 0<=v/\v < 2+I then some v else (roots.findIdx? λx=>decide (x=v)).map λi:Nat=>2+(I:Int)+i
structure jn where
 root:List Int
 leaves:List (List Int)
def jE (s:dV) (v:Int):List Int:=s.leaves.getD v.toNat []
def fN (I:Nat) (s:dV) (bf:List Int):List Int :=
 let N:=s.leaves.length
 let nd:=Cg (λv=>if v < 2+I then [] else s.leaves.getD v []) N (wu (List.replicate N false) bf)
 ((List.range N).filter λv=>nd.getD v false&&decide (2+I<=v)).map λv:Nat=>(v:Int)
def jb (I:Nat) (gs:List Gate) (s:dV) (bf:List Int):dM × jn :=
 let R:=fN I s bf
 let sig:=eO I R
 (⟨I,R.map λr=>(cellOf I gs r (jE s r) sig).1,bf.map λv=>(sig v).getD 0⟩,⟨R,R.map (jE s)⟩)
def mapM (I:Nat) (gs:List Gate) (bf:List Int):dM × jn × Int:=match iS I gs with
 | none=>(⟨0,[],[]⟩,⟨[],[]⟩,2)
 | some s=>((jb I gs s bf).1,(jb I gs s bf).2,0)
def B6 (x y:Cell):Bool:=decide (x.table=y.table)&&decide (x.ew=y.ew)&&decide (x.ins=y.ins)
def mD (I:Nat) (gs:List Gate) (sig:Int->Option Int):List Cell->List Int->List (List Int)->Bool
 | x :: cs,r :: rs,l :: ls=>decide ((cellOf I gs r l sig).2=0)&&B6 x (cellOf I gs r l sig).1&&mD I gs sig cs rs ls
 | _,_,_=>true
def mE (N:Int):Int->List Int->Bool
 | _,[]=>true
 | last,r :: rs=>decide (last < r/\r < N)&&mE N r rs
def oe (sig:Int->Option Int):List Int->List Int->Bool
 | v :: vs,s :: ss=>decide (sig v=some s)&&oe sig vs ss
 | _,_=>true
def uM (I:Nat) (gs:List Gate) (bf:List Int) (m:dM) (c:jn):Bool :=
 (decide (m.n=I)&&decide (c.root.length=m.cells.length)&&decide (c.leaves.length=m.cells.length)&&decide (m.bf.length=bf.length)) &&
  (mE (2+I+gs.length) (1+I) c.root&&(mD I gs (eO I c.root) m.cells c.root c.leaves&&oe (eO I c.root) bf m.bf))
abbrev j9 (I:Nat) (s:dV) (v:Nat):List Int:=if v < 2+I then [] else s.leaves.getD v []
theorem Nr {I:Nat} {gs:List Gate} (G:cI I gs) {s:dV} (h:lJ I gs s) (v:Nat) (x:Int) (hx:x∈j9 I s v):0<=x/\x < v:=by
 unfold j9 at hx
 split at hx
 ·cases hx
 ·cases hq:s.leaves[v]? with
  | none=>rw [List.getD_eq_getElem?_getD,hq] at hx;cases hx
  | some l =>
   rw [List.getD_eq_getElem?_getD,hq,rT] at hx
   have ji:=(bh.1 hq).1
   rw [h.o0] at ji
   have e:2+I+(v - 2 - I)=v:=by omega
   have hg:=dE (l:=gs) (i:=v - 2 - I) (by omega)
   have:=h.lf (v - 2 - I) l _ (by rw [e];exact hq) hg
   split at this
   ·subst this;have:=G.ops hg x hx;omega
   ·have:=this.2.2.1 x hx;omega
theorem Sw {I:Nat} {gs:List Gate} (G:cI I gs) {s:dV} (h:lJ I gs s) {bf:List Int} (hd:∀d∈bf,0<=d/\d < 2+I+gs.length) (v:Nat) :
  (v:Int)∈fN I s bf↔2+I<=v/\v < 2+I+gs.length/\oH (j9 I s) (λu=>∃d∈bf,d.toNat=u) v:=by
 have bY:=Nr G h
 unfold fN
 simp only [jW]
 have h1:(Cg (j9 I s) s.leaves.length (wu (List.replicate s.leaves.length false) bf)).getD v false=true↔v < 2+I+gs.length/\oH (j9 I s) (λu=>∃d∈bf,d.toNat=u) v:=by
  rw [El,Ms bY _ λu hu hm=>by have:=(bh.1 hm).1;rw [HU] at this;simp at this;omega]
  rw [HU,zr,h.o0]
  refine and_congr_right λ_=>⟨λk=>k.mono λu hu=>?_,λk=>k.mono λu hu=>?_⟩
  ·rcases xE.1 hu with hu|⟨_,hu⟩
   ·simp [ux] at hu
   ·exact .base hu
  ·obtain ⟨d,pa,rfl⟩:=hu
   refine .base (xE.2 (.inr ⟨?_,d,pa,rfl⟩))
   have:=hd d pa
   simp;omega
 constructor
 ·rintro ⟨u,hu,e⟩
  have:u=v:=by omega
  subst this
  obtain ⟨_,hu⟩:=lD.1 hu
  simp only [cu,decide_eq_true_eq] at hu
  exact ⟨hu.2,h1.1 hu.1⟩
 ·rintro ⟨a,b⟩
  refine ⟨v,lD.2 ⟨mB.2 (by rw [h.o0];exact b.1),?_⟩,rfl⟩
  simp only [cu,decide_eq_true_eq]
  exact ⟨h1.2 b,a⟩
theorem Sx (I:Nat) (s:dV) (bf:List Int):fX (fN I s bf):=by
 unfold fN fX
 rw [pY]
 exact (BN.filter _).imp λh=>by omega
theorem Sy {I:Nat} {s:dV} {bf:List Int} {r:Int} (hr:r∈fN I s bf):((r.toNat:Nat):Int)=r:=by
 unfold fN at hr
 obtain ⟨u,_,rfl⟩:=jW.1 hr
 rfl
theorem Lg {I:Nat} {gs:List Gate} (G:cI I gs) {s:dV} (h:lJ I gs s) {bf:List Int} (hd:∀d∈bf,0<=d/\d < 2+I+gs.length) :
  fX (fN I s bf)/\(∀r∈fN I s bf,2+(I:Int)<=r/\r < 2+I+gs.length)/\(∀d∈bf,2+(I:Int)<=d->d∈fN I s bf) /\
   (∀r∈fN I s bf,∀x∈jE s r,2+(I:Int)<=x->x∈fN I s bf)/\∀r∈fN I s bf,r∈bf\/∃u∈fN I s bf,r∈jE s u:=by
 have bY:=Nr G h
 have hm:=Sw G h hd
 have nat:∀r∈fN I s bf,((r.toNat:Nat):Int)=r:=λr hr=>Sy hr
 refine ⟨Sx I s bf,λr hr=>?_,λd pa h2=>?_,λr hr x hx h2=>?_,λr hr=>?_⟩
 ·have e:=nat r hr
  rw [<-e] at hr
  have:=(hm _).1 hr
  omega
 ·have hb:=hd d pa
  have e:((d.toNat:Nat):Int)=d:=Int.toNat_of_nonneg hb.1
  rw [<-e]
  exact (hm _).2 ⟨by omega,by omega,.base ⟨d,pa,rfl⟩⟩
 ·have e:=nat r hr
  rw [<-e] at hr
  have k:=(hm _).1 hr
  have jy:x∈j9 I s r.toNat:=by unfold j9;rw [if_neg (by omega)];exact hx
  have:=bY _ x jy
  have e':((x.toNat:Nat):Int)=x:=Int.toNat_of_nonneg this.1
  rw [<-e']
  exact (hm _).2 ⟨by omega,by omega,.step k.2.2 jy⟩
 ·have e:=nat r hr
  rw [<-e] at hr
  obtain ⟨k1,k2,k3⟩:=(hm _).1 hr
  generalize hq:r.toNat=q at *
  cases k3 with
  | base hb =>
   obtain ⟨d,pa,he⟩:=hb
   have:=hd d pa
   left
   rw [show r=d by omega]
   exact pa
  | step hu hx =>
   rename_i u x
   right
   have jy:=bY _ _ hx
   unfold j9 at hx
   split at hx
   ·cases hx
   ·rename_i YI
    refine ⟨(u:Int),(hm u).2 ⟨by omega,?_,hu⟩,?_⟩
    ·cases hq:s.leaves[u]? with
     | none=>rw [List.getD_eq_getElem?_getD,hq] at hx;cases hx
     | some l=>have:=(bh.1 hq).1;rw [h.o0] at this;exact this
    ·unfold jE
     rw [show r=x by omega]
     simpa using hx
theorem Sz {N:Int}:∀{last:Int} {R:List Int},fX R->(∀r∈R,last < r/\r < N)->mE N last R=true
 | _,[],_,_=>rfl
 | last,r :: rs,h,k=>by
  have h':=eX.1 h
  simp only [mE,cu,decide_eq_true_eq]
  exact ⟨k r (by simp),Sz h'.2 λx hx=>⟨h'.1 x hx,(k x (by simp [hx])).2⟩⟩
theorem SA {sig:Int->Option Int}:∀{D:List Int},(∀d∈D,∃s,sig d=some s)->oe sig D (D.map λv=>(sig v).getD 0)=true
 | [],_=>rfl
 | d :: r,h=>by
  obtain ⟨s,hs⟩:=h d (by simp)
  simp only [gS,oe,cu,decide_eq_true_eq]
  exact ⟨by rw [hs];rfl,SA λx hx=>h x (by simp [hx])⟩
theorem abT (x:Cell):B6 x x=true:=by simp [B6]
theorem SB {I:Nat} {gs:List Gate} {sig:Int->Option Int} {f:Int->List Int}:∀{R:List Int},(∀r∈R,(cellOf I gs r (f r) sig).2=0)->mD I gs sig (R.map λr=>(cellOf I gs r (f r) sig).1) R (R.map f)=true
 | [],_=>rfl
 | r :: rs,h=>by
  simp only [gS,mD,cu,decide_eq_true_eq]
  exact ⟨⟨h r (by simp),abT _⟩,SB λx hx=>h x (by simp [hx])⟩
theorem Mt {I:Nat} {R:List Int} {v:Int} (h:(0<=v/\v < 2+I)\/v∈R):∃s,eO I R v=some s:=by
 unfold eO
 split
 ·exact ⟨_,rfl⟩
 ·rename_i hn
  rcases h with h|h
  ·exact absurd h hn
  ·cases hq:R.findIdx? (λx=>decide (x=v)) with
   | some i=>exact ⟨_,rfl⟩
   | none =>
    rw [BL] at hq
    have:=hq v h
    simp at this
theorem acS {I:Nat} {gs:List Gate} (G:cI I gs) {i:Nat} {g:Gate} (hg:gs[i]?=some g) (h7:g.op≠7) {l:List Int} (a1:fX l) (a2:l.length<=4) (a3:∀x∈l,2<=x/\x < 2+(I:Int)+i)
  (a4:lO I gs (cR g) (·∈l)) (a5:∀S:List Int,S.length<=4->lO I gs (cR g) (·∈S)->dx S l=true->dx l S=true):(iE I gs (2+(I:Int)+i) l).isSome=true:=by
 rw [Sv G]
 have hr:(2+(I:Int)+i).toNat=2+I+i:=by omega
 have hi:=(bh.1 hg).1
 refine ⟨⟨by omega,by omega,a2,λx hx=>by have:=a3 x hx;omega,a1⟩,.gate hg h7 a4,?_⟩
 rw [hr]
 classical
 have hS:∀x∈l.filter (λx=>decide (gE I gs l (2+I+i) x.toNat)),x∈l:=λx hx=>(lD.1 hx).1
 have main:∀v:Int,gK I gs (·∈l) v->0<=v->gE I gs l (2+I+i) v.toNat->gK I gs (·∈l.filter λx=>decide (gE I gs l (2+I+i) x.toNat)) v:=by
  intro v h
  induction h with
  | mem h1=>exact λ_ hr=>.mem (lD.2 ⟨h1,by simpa using hr⟩)
  | const h1 h2=>exact λ_ _=>.const h1 h2
  | @gate j g' h1 h2 h3 ih =>
   intro _ hr
   by_cases hm:2+(I:Int)+j∈l
   ·exact .mem (lD.2 ⟨hm,by simpa using hr⟩)
   ·refine .gate h1 h2 λo ho=>ih o ho (G.ops h1 o ho).1 ?_
    refine .step hr (qU.2 ⟨?_,g',pU.2 ⟨j,by omega,h1⟩,h2,ho⟩)
    rw [show (((2+(I:Int)+j).toNat:Nat):Int)=2+(I:Int)+j by omega]
    exact hm
 have Fo:=a5 _ (nj (DV _ _) a2) (λo ho=>main o (a4 o ho) (G.ops hg o ho).1 (.step (.base rfl) (qU.2 ⟨λhm=>by have:=a3 _ hm;omega,g,pU.2 ⟨i,rfl,hg⟩,h7,ho⟩))) (p9.2 hS)
 intro x hx
 have:=(lD.1 (p9.1 Fo x hx)).2
 simpa using this
theorem U8 {I:Nat} {gs:List Gate} {s:dV} (h:lJ I gs s) {r:Int} (h1:2+(I:Int)<=r) (h2:r < 2+I+gs.length) :
  ∃(i:Nat) (g:Gate),r=2+(I:Int)+i/\gs[i]?=some g/\s.leaves[2+I+i]?=some (jE s r):=by
 have hi:r.toNat - 2 - I < gs.length:=by omega
 refine ⟨r.toNat - 2 - I,_,by omega,dE hi,?_⟩
 unfold jE
 rw [show 2+I+(r.toNat - 2 - I)=r.toNat by omega,List.getD_eq_getElem?_getD,dE (by rw [h.o0];omega)]
 rfl
theorem adU {I:Nat} {gs:List Gate} (G:cI I gs) {s:dV} (h:lJ I gs s) {sig:Int->Option Int} {r:Int} (h1:2+(I:Int)<=r) (h2:r < 2+I+gs.length) (ai0:∀x∈jE s r,∃y,sig x=some y) :
  (cellOf I gs r (jE s r) sig).2=0:=by
 obtain ⟨i,g,rfl,hg,hl⟩:=U8 h h1 h2
 have hr:(2+(I:Int)+i).toNat=2+I+i:=by omega
 have AT:gJ I gs (2+(I:Int)+i).toNat=some g:=by rw [hr];exact pU.2 ⟨i,rfl,hg⟩
 have k:=h.lf i _ g hl hg
 unfold cellOf
 rw [Hw ai0]
 simp only [if_true,AT]
 split
 ·rename_i h7
  rw [if_pos h7] at k
  simp only
  rw [if_pos k]
 ·rename_i h7
  rw [if_neg h7] at k
  obtain ⟨a1,a2,a3,a4,a5,_⟩:=k
  split
  ·rename_i e
   have:=a3 (2+(I:Int)+i) (by rw [e];simp)
   omega
  ·have hc:=acS G hg h7 a1 a2 a3 a4 a5
   unfold uZ
   cases hq:iE I gs (2+(I:Int)+i) (jE s (2+(I:Int)+i)) with
   | none=>rw [hq] at hc;cases hc
   | some l=>rfl
theorem U9 {I:Nat} {gs:List Gate} (G:cI I gs) {s:dV} (h:lJ I gs s) {r:Int} (h1:2+(I:Int)<=r) (h2:r < 2+I+gs.length):∀x∈jE s r,0<=x/\x < r:=by
 obtain ⟨i,g,rfl,hg,hl⟩:=U8 h h1 h2
 have k:=h.lf i _ g hl hg
 intro x hx
 split at k
 ·rw [k] at hx;have:=G.ops hg x hx;omega
 ·have:=k.2.2.1 x hx;omega
theorem afX {I:Nat} {gs:List Gate} (G:cI I gs) {s:dV} (h:lJ I gs s) {bf:List Int} (hd:∀d∈bf,0<=d/\d < 2+I+gs.length) :
  uM I gs bf (jb I gs s bf).1 (jb I gs s bf).2=true:=by
 obtain ⟨r1,r2,r3,r4,r5⟩:=Lg G h hd
 unfold uM jb
 simp only [cu,decide_eq_true_eq,kF]
 refine ⟨⟨⟨⟨trivial,trivial⟩,trivial⟩,trivial⟩,Sz r1 λr hr=>by have:=r2 r hr;omega,SB λr hr=>?_,SA λd pa=>?_⟩
 ·have hb:=r2 r hr
  refine adU G h hb.1 hb.2 λx hx=>Mt ?_
  have:=U9 G h hb.1 hb.2 x hx
  by_cases oD:x < 2+(I:Int)
  ·exact .inl ⟨this.1,oD⟩
  ·exact .inr (r4 r hr x hx (by omega))
 ·refine Mt ?_
  have:=hd d pa
  by_cases oD:d < 2+(I:Int)
  ·exact .inl ⟨this.1,oD⟩
  ·exact .inr (r3 d pa (by omega))

end Go.Proofs.Pk
