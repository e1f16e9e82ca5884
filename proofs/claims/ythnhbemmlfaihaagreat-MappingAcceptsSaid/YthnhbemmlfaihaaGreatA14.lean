import Derived.Test.YthnhbemmlfaihaaGreatA13
import Derived.WalkKit
set_option linter.unusedVariables false
set_option linter.unusedSimpArgs false
set_option maxRecDepth 10000
set_option maxHeartbeats 64000000
namespace Go.Proofs.Pk
open Go Go.Vc
structure eb where
 kind:Int
 i:Int
 bit:Int
 deriving DecidableEq
structure Gate where
 op:Int
 a:Int
 b:Int
 c:Int
 n:Int
 deriving DecidableEq
structure Cell where
 ins:List Int
 table:Int
 ej:Int
structure Block where
 ins:List Int
 table:Int
 ej:Int
 cJ:Int
 key:Int
structure Net where
 ins:List eb
 cq:List Gate
 outs:List eb
 bA:List Int
structure ea where
 n:Int
 cells:List Cell
 bA:List Int
structure ef where
 ins:List eb
 blocks:List Block
 outs:List eb
 bA:List Int
inductive Expr where
 | mk (op k w:Int) (args:List Expr)
def Expr.op:Expr->Int|.mk o _ _ _=>o
def Expr.k:Expr->Int|.mk _ k _ _=>k
def Expr.w:Expr->Int|.mk _ _ w _=>w
def Expr.args:Expr->List Expr|.mk _ _ _ l=>l
structure N8 where
 kind:Int
 src:ByteArray
 n:Int
structure Py where
 name:ByteArray
 w:Int
 init:Int
 next:Expr
 N9:N8
structure Mem where
 name:ByteArray
 w:Int
 words:Int
 en:Expr
 ad:Expr
 da:Expr
 N9:N8
structure Take where
 chan:Int
 w:Int
 cond:Expr
structure Pz where
 chan:Int
 w:Int
 cond:Expr
 data:Expr
structure Head where
 has:Bool
 v:Int
structure Vo where
 xW:List Int
 xX:List (List Int)
structure Source where
 kind:Int
 n:Int
 deriving DecidableEq
structure Part where
 ins:List Source
 table:Int
 ej:Int
 cJ:Int
abbrev gd (l:List Int):Prop:=l.Pairwise (· < ·)
theorem gd.nodup {l:List Int} (h:gd l):l.Nodup:=h.imp λgy e=>by omega
theorem gd.ext:∀{l k:List Int},gd l->gd k->(∀x,x∈l↔x∈k)->l=k
 | [],[],_,_,_=>rfl
 | [],y :: k,_,_,h=>absurd ((h y).2 (by simp)) (by simp)
 | x :: l,[],_,_,h=>absurd ((h x).1 (by simp)) (by simp)
 | x :: l,y :: k,hl,hk,h=>by
  have jr:=eX.1 hl
  have fJ:=eX.1 hk
  have e:x=y:=by
   rcases cv.1 ((h x).1 (by simp)) with e|e
   ·exact e
   ·rcases cv.1 ((h y).2 (by simp)) with e'|e'
    ·exact e'.symm
    ·have:=fJ.1 x e;have:=jr.1 y e';omega
  subst e
  rw [gd.ext jr.2 fJ.2 λz=>?_]
  have hz:=h z
  simp only [cv] at hz
  constructor
  ·intro hm
   rcases hz.1 (.inr hm) with e|e
   ·subst e;exact absurd (jr.1 z hm) (by omega)
   ·exact e
  ·intro hm
   rcases hz.2 (.inr hm) with e|e
   ·subst e;exact absurd (fJ.1 z hm) (by omega)
   ·exact e
def dU:List Int->List Int
 | []=>[]
 | [x]=>[x]
 | x :: y :: r=>if x=y then dU (y :: r) else x :: dU (y :: r)
theorem Hy:∀{l:List Int} {x:Int},x∈dU l↔x∈l
 | [],x=>by simp [dU]
 | [y],x=>by simp [dU]
 | y :: z :: r,x=>by
  unfold dU
  split
  ·rename_i e;subst e;rw [Hy];simp
  ·rw [cv,Hy];simp
theorem LZ:∀{l:List Int},l.Pairwise (·<=·)->gd (dU l)
 | [],_=>.nil
 | [y],_=>by simp [dU]
 | y :: z :: r,h=>by
  have h':=eX.1 h
  unfold dU
  split
  ·exact LZ h'.2
  ·rename_i bR
   refine eX.2 ⟨λx hx=>?_,LZ h'.2⟩
   rw [Hy] at hx
   have h1:=h'.1 z (by simp)
   rcases cv.1 hx with rfl|hx
   ·omega
   ·have:=(eX.1 h'.2).1 x hx;omega
def uM (x:Int):List Int->List Int
 | []=>[x]
 | y :: r=>if x < y then x :: y :: r else if x=y then y :: r else y :: uM x r
theorem Mr {x z:Int}:∀{l:List Int},z∈uM x l↔z=x\/z∈l
 | []=>by simp [uM]
 | y :: r=>by
  unfold uM
  split
  ·simp
  ·split
   ·rename_i e;subst e;simp
   ·simp only [cv,Mr (l:=r)]
    constructor
    ·rintro (h|h|h)<;>simp [h]
    ·rintro (h|h|h)<;>simp [h]
theorem TT {x:Int}:∀{l:List Int},gd l->gd (uM x l)
 | [],_=>by simp [uM]
 | y :: r,h=>by
  have h':=eX.1 h
  unfold uM
  split
  ·refine eX.2 ⟨λz hz=>?_,h⟩
   rcases cv.1 hz with rfl|hz
   ·assumption
   ·have:=h'.1 z hz;omega
  ·split
   ·exact h
   ·refine eX.2 ⟨λz hz=>?_,TT h'.2⟩
    rcases Mr.1 hz with rfl|hz
    ·omega
    ·exact h'.1 z hz
def jR (a b:List Int):List Int:=(a++b).foldr uM []
theorem QN {z:Int}:∀{l:List Int},z∈l.foldr uM []↔z∈l
 | []=>by simp
 | y :: r=>by rw [List.foldr_cons,Mr,QN,cv]
theorem QO:∀l:List Int,gd (l.foldr uM [])
 | []=>.nil
 | y :: r=>TT (QO r)
theorem Dx {a b:List Int} {z:Int}:z∈jR a b↔z∈a\/z∈b:=by unfold jR;rw [QN,eF]
theorem K5 (a b:List Int):gd (jR a b):=QO _
theorem acj {a b l:List Int} (h:l.Pairwise (·<=·)) (hp:l.Perm (a++b)):dU l=jR a b :=
 (LZ h).ext (K5 a b) λx=>by rw [Hy,Dx,hp.mem_iff,eF]
def dA (a b:List Int):Bool:=a.all λx=>b.contains x
theorem pN {a b:List Int}:dA a b=true↔∀x∈a,x∈b:=by simp [dA]
def kY (l:List (List Int)) (x:List Int):List (List Int):=if l.any (λy=>dA y x) then l else l.filter (λy=>!dA x y)++[x]
abbrev Ji (L:List (List Int)):Prop:=L.Pairwise λa b=>dA a b=false/\dA b a=false
theorem K6 {a b c:List Int} (h:dA a b=true) (k:dA b c=true):dA a c=true:=by rw [pN] at *;exact λx hx=>k x (h x hx)
theorem ack (a:List Int):dA a a=true:=pN.2 λ_ h=>h
structure rY (F R:List (List Int)):Prop where
 mem:∀r∈R,r∈F
 all:∀u∈F,∃r∈R,dA r u=true
 v8:Ji R
theorem rY.nil:rY [] []:=⟨by simp,by simp,.nil⟩
theorem rY.add {F R:List (List Int)} (h:rY F R) (u:List Int):rY (F++[u]) (kY R u):=by
 unfold kY
 split
 ·rename_i hs
  obtain ⟨y,hy,hs⟩:=Hl.1 hs
  refine ⟨λr hr=>ui _ (h.mem r hr),λv hv=>?_,h.v8⟩
  rcases eF.1 hv with hv|hv
  ·exact h.all v hv
  ·simp at hv;subst hv;exact ⟨y,hy,hs⟩
 ·rename_i hs
  have hs:∀y∈R,dA y u=false:=λy hy=>by
   have:=(List.any_eq_false.1 (Bool.not_eq_true _ ▸ hs)) y hy
   simpa using this
  refine ⟨λr hr=>?_,λv hv=>?_,?_⟩
  ·rcases eF.1 hr with hr|hr
   ·exact ui _ (h.mem r (lx.1 hr).1)
   ·exact xd _ hr
  ·rcases eF.1 hv with hv|hv
   ·obtain ⟨r,hr,JW⟩:=h.all v hv
    cases hq:dA u r with
    | false=>exact ⟨r,ui _ (lx.2 ⟨hr,by simp [hq]⟩),JW⟩
    | true=>exact ⟨u,by simp,K6 hq JW⟩
   ·simp at hv;subst hv;exact ⟨v,by simp,ack v⟩
  ·refine ko.2 ⟨h.v8.filter _,by simp,λa ha b hb=>?_⟩
   simp at hb;subst hb
   obtain ⟨yg,q9⟩:=lx.1 ha
   exact ⟨hs a yg,by simpa using q9⟩
theorem rY.fold {F R:List (List Int)} (h:rY F R):∀L:List (List Int),rY (F++L.filter λu=>decide (u.length<=4)) (L.foldl (λnext u=>if u.length<=4 then kY next u else next) R)
 | []=>by simpa using h
 | u :: L=>by
  rw [lu]
  by_cases hu:u.length<=4
  ·rw [if_pos hu,Lh (by simpa using hu)]
   have:=rY.fold (h.add u) L
   rwa [vB] at this
  ·rw [if_neg hu,Sj (by simpa using hu)]
   exact rY.fold h L
def kq (op:Int):Nat:=if op=1 then 1 else if op=2\/op=3\/op=4 then 2 else 3
def cH (g:Gate):List Int:=[g.a,g.b,g.c].take (kq g.op)
theorem adr {g:Gate} {o:Int} (h:o∈cH g):o=g.a\/o=g.b\/o=g.c:=by simpa using ug h
theorem vI (g:Gate):1<=(cH g).length/\(cH g).length<=3:=by
 unfold cH kq
 split
 ·simp
 ·split<;>simp
structure FW (lim:Int) (g:Gate):Prop where
 op:1<=g.op/\g.op<=7
 a:0<=g.a/\g.a < lim
 b:0<=g.b/\g.b < lim
 c:0<=g.c/\g.c < lim
 n:0<=g.n/\g.n < 64
structure cC (I:Nat) (gs:List Gate):Prop where
 mK:2+I+gs.length<=600
 cq:∀(i:Nat) (g:Gate),gs[i]?=some g->FW (2+I+i) g
theorem cC.ops {I:Nat} {gs:List Gate} (h:cC I gs) {i:Nat} {g:Gate} (hg:gs[i]?=some g):∀o∈cH g,0<=o/\o < 2+I+i:=λo ho=>by
 have k:=h.cq i g hg
 rcases adr ho with rfl|rfl|rfl
 ·exact k.a
 ·exact k.b
 ·exact k.c
inductive gJ (I:Nat) (gs:List Gate) (S:Int->Prop):Int->Prop
 | mem {v:Int}:S v->gJ I gs S v
 | const {v:Int}:0<=v->v < 2->gJ I gs S v
 | gate {i:Nat} {g:Gate}:gs[i]?=some g->g.op≠7->(∀o∈cH g,gJ I gs S o)->gJ I gs S (2+I+i)
theorem gJ.mono {I:Nat} {gs:List Gate} {S T:Int->Prop} (h:∀x,S x->T x) {v:Int} (k:gJ I gs S v):gJ I gs T v:=by
 induction k with
 | mem h1=>exact .mem (h _ h1)
 | const h1 h2=>exact .const h1 h2
 | gate h1 h2 _ ih=>exact .gate h1 h2 ih
theorem gJ.inv {I:Nat} {gs:List Gate} {S:Int->Prop} {i:Nat} {g:Gate} (hg:gs[i]?=some g) (k:gJ I gs S (2+I+i)) (hn:¬S (2+I+i)):g.op≠7/\∀o∈cH g,gJ I gs S o:=by
 generalize hv:(2+(I:Int)+i)=v at k
 cases k with
 | mem h1=>rw [hv] at hn;exact absurd h1 hn
 | const h1 h2=>omega
 | gate h1 h2 h3 =>
  rename_i j g'
  have:j=i:=by omega
  subst this
  rw [hg] at h1;cases h1
  exact ⟨h2,h3⟩
theorem gJ.input {I:Nat} {gs:List Gate} {S:Int->Prop} {v:Int} (h:2<=v) (h':v < 2+I) (k:gJ I gs S v):S v:=by
 cases k with
 | mem h1=>exact h1
 | const h1 h2=>omega
 | gate h1 h2 h3=>omega
theorem gJ.more {I:Nat} {gs hs:List Gate} {S:Int->Prop} {v:Int} (k:gJ I gs S v):gJ I (gs++hs) S v:=by
 induction k with
 | mem h1=>exact .mem h1
 | const h1 h2=>exact .const h1 h2
 | gate h1 h2 _ ih=>exact .gate (by rw [jk (bf.1 h1).1];exact h1) h2 ih
structure oi (Q:(Int->Prop)->Prop) (m:Int) (C:List (List Int)):Prop where
 inc:∀c∈C,gd c
 len:∀c∈C,c.length<=4
 lim:∀c∈C,∀x∈c,2<=x/\x < m
 cut:∀c∈C,Q (·∈c)
 all:∀S:List Int,S.length<=4->Q (·∈S)->∃c∈C,dA c S=true
 v8:Ji C
theorem gd.afA {c S:List Int} (h:gd c) (hs:dA c S=true):c.length<=S.length:=Bm h.nodup (pN.1 hs)
def p8 (all cs:List (List Int)):List (List Int):=(all.flatMap λa=>cs.map λb=>jR a b).foldl (λnext u=>if u.length<=4 then kY next u else next) []
theorem oi.step {Q Q':(Int->Prop)->Prop} {m:Int} {A C:List (List Int)} (hA:oi Q m A) (hC:oi Q' m C) (mono:∀S T:Int->Prop,(∀x,S x->T x)->Q S->Q T) (ag6:∀S T:Int->Prop,(∀x,S x->T x)->Q' S->Q' T) :
  oi (λS=>Q S/\Q' S) m (p8 A C):=by
 have M:=rY.fold rY.nil (A.flatMap λa=>C.map λb=>jR a b)
 have sh:∀r∈p8 A C,∃a∈A,∃b∈C,r=jR a b/\r.length<=4:=λr hr=>by
  have h:=M.mem r hr
  rw [uq,lx,DF] at h
  obtain ⟨⟨a,ha,h⟩,hl⟩:=h
  obtain ⟨b,hb,rfl⟩:=jw.1 h
  exact ⟨a,ha,b,hb,rfl,by simpa using hl⟩
 refine ⟨λr hr=>?_,λr hr=>?_,λr hr x hx=>?_,λr hr=>?_,λS hS hq=>?_,M.v8⟩
 ·obtain ⟨a,ha,b,hb,rfl,_⟩:=sh r hr
  exact K5 a b
 ·obtain ⟨a,ha,b,hb,_,hl⟩:=sh r hr
  exact hl
 ·obtain ⟨a,ha,b,hb,rfl,_⟩:=sh r hr
  rcases Dx.1 hx with hx|hx
  ·exact hA.lim a ha x hx
  ·exact hC.lim b hb x hx
 ·obtain ⟨a,ha,b,hb,rfl,_⟩:=sh r hr
  exact ⟨mono _ _ (λx hx=>Dx.2 (.inl hx)) (hA.cut a ha),ag6 _ _ (λx hx=>Dx.2 (.inr hx)) (hC.cut b hb)⟩
 ·obtain ⟨a,ha,has⟩:=hA.all S hS hq.1
  obtain ⟨b,hb,OS⟩:=hC.all S hS hq.2
  have hu:dA (jR a b) S=true:=pN.2 λx hx=>by
   rcases Dx.1 hx with hx|hx
   ·exact pN.1 has x hx
   ·exact pN.1 OS x hx
  have hl:=(K5 a b).afA hu
  obtain ⟨r,hr,hrs⟩:=M.all (jR a b) (by
   rw [uq,lx,DF]
   exact ⟨⟨a,ha,jw.2 ⟨b,hb,rfl⟩⟩,by simpa using na hl hS⟩)
  exact ⟨r,hr,K6 hrs hu⟩
def fG:List Int->List Int->Int
 | [],[]=>0
 | [],_ :: _=>-1
 | _ :: _,[]=>1
 | x :: a,y :: b=>if x < y then -1 else if y < x then 1 else fG a b
def iF (a b:List Int):Int:=if a.length < b.length then -1 else if b.length < a.length then 1 else fG a b
theorem UG:∀{a b:List Int},fG a b=0->a=b
 | [],[],_=>rfl
 | [],_ :: _,h=>by simp [fG] at h
 | _ :: _,[],h=>by simp [fG] at h
 | x :: a,y :: b,h=>by
  unfold fG at h
  split at h
  ·simp at h
  ·split at h
   ·simp at h
   ·rw [UG h,show x=y by omega]
theorem SO:∀a:List Int,fG a a=0
 | []=>rfl
 | x :: a=>by unfold fG;rw [if_neg (by omega),if_neg (by omega)];exact SO a
theorem TU:∀a b:List Int,fG b a=- fG a b
 | [],[]=>rfl
 | [],_ :: _=>rfl
 | _ :: _,[]=>rfl
 | x :: a,y :: b=>by
  unfold fG
  by_cases h1:x < y
  ·rw [if_neg (by omega),if_pos h1,if_pos h1];rfl
  ·by_cases h2:y < x
   ·rw [if_pos h2,if_neg h1,if_pos h2]
   ·rw [if_neg h2,if_neg h1,if_neg h1,if_neg h2];exact TU a b
theorem RV:∀{a b c:List Int},fG a b < 0->fG b c < 0->fG a c < 0
 | [],[],_,h,_=>by simp [fG] at h
 | [],_ :: _,[],_,h=>by simp [fG] at h
 | [],_ :: _,_ :: _,_,_=>by simp [fG]
 | _ :: _,[],_,h,_=>by simp [fG] at h
 | _ :: _,_ :: _,[],_,h=>by simp [fG] at h
 | x :: a,y :: b,z :: c,h,k=>by
  unfold fG at h k ⊢
  split at h
  ·split at k
   ·rw [if_pos (by omega)];decide
   ·split at k
    ·simp at k
    ·rw [if_pos (by omega)];decide
  ·split at h
   ·simp at h
   ·split at k
    ·rw [if_pos (by omega)];decide
    ·split at k
     ·simp at k
     ·rw [if_neg (by omega),if_neg (by omega)];exact RV h k
theorem MI {a b:List Int} (h:iF a b=0):a=b:=by
 unfold iF at h
 split at h
 ·simp at h
 ·split at h
  ·simp at h
  ·exact UG h
theorem By (a b:List Int):iF b a=- iF a b:=by
 unfold iF
 by_cases h1:a.length < b.length
 ·rw [if_neg (by omega),if_pos h1,if_pos h1];rfl
 ·by_cases h2:b.length < a.length
  ·rw [if_pos h2,if_neg h1,if_pos h2]
  ·rw [if_neg h2,if_neg h1,if_neg h1,if_neg h2];exact TU a b
theorem RW {a b c:List Int} (h:iF a b < 0) (k:iF b c < 0):iF a c < 0:=by
 unfold iF at *
 split at h
 ·split at k
  ·rw [if_pos (by omega)];decide
  ·split at k
   ·simp at k
   ·rw [if_pos (by omega)];decide
 ·split at h
  ·simp at h
  ·split at k
   ·rw [if_pos (by omega)];decide
   ·split at k
    ·simp at k
    ·rw [if_neg (by omega),if_neg (by omega)];exact RV h k
theorem QX {a b c:List Int} (h:iF a b<=0) (k:iF b c<=0):iF a c<=0:=by
 rcases Int.lt_or_eq_of_le h with h|h
 ·rcases Int.lt_or_eq_of_le k with k|k
  ·exact Int.le_of_lt (RW h k)
  ·rw [<-MI k];omega
 ·rw [MI h];exact k
def zZ (x:List Int):List (List Int)->List (List Int)
 | []=>[x]
 | y :: r=>if iF x y<=0 then x :: y :: r else y :: zZ x r
def n7 (L:List (List Int)):List (List Int):=L.foldr zZ []
theorem L3 (x:List Int):∀L:List (List Int),(zZ x L).Perm (x :: L)
 | []=>.refl _
 | y :: r=>by
  unfold zZ
  split
  ·exact .refl _
  ·exact ((L3 x r).cons y).trans (.swap x y r)
theorem wX:∀L:List (List Int),(n7 L).Perm L
 | []=>.refl _
 | y :: r=>(L3 y (n7 r)).trans ((wX r).cons y)
abbrev J2 (L:List (List Int)):Prop:=L.Pairwise λa b=>iF a b<=0
theorem TV (x:List Int):∀{L:List (List Int)},J2 L->J2 (zZ x L)
 | [],_=>by simp [zZ]
 | y :: r,h=>by
  have h':=eX.1 h
  unfold zZ
  split
  ·rename_i wB
   refine eX.2 ⟨λz hz=>?_,h⟩
   rcases cv.1 hz with rfl|hz
   ·exact wB
   ·exact QX wB (h'.1 z hz)
  ·rename_i wB
   refine eX.2 ⟨λz hz=>?_,TV x h'.2⟩
   rcases cv.1 ((L3 x r).mem_iff.1 hz) with rfl|hz
   ·rw [By];omega
   ·exact h'.1 z hz
theorem L4:∀L:List (List Int),J2 (n7 L)
 | []=>.nil
 | y :: r=>TV y (L4 r)
theorem ads {L R:List (List Int)} (hp:R.Perm L) (hs:J2 R):R=n7 L :=
 List.Perm.eq_of_pairwise (λa b _ _ h k=>MI (by rw [By] at k;omega)) hs (L4 L) (hp.trans (wX L).symm)
theorem acm {L:List (List Int)} {x y:List Int} {r:List (List Int)} (h:n7 L=x :: r) (hy:y∈L):x.length<=y.length:=by
 have hs:=L4 L
 have hm:=(wX L).mem_iff.2 hy
 rw [h] at hs hm
 rcases cv.1 hm with rfl|hm
 ·exact fN _
 ·have:=(eX.1 hs).1 y hm
  unfold iF at this
  split at this
  ·omega
  ·split at this
   ·simp at this
   ·omega
def bW (L l:List Int):Int:=l.foldl (λm v=>max m (L.getD v.toNat 0)) 0
theorem K7 (L:List Int):∀(l:List Int) (m:Int),m<=l.foldl (λm v=>max m (L.getD v.toNat 0)) m/\∀v∈l,L.getD v.toNat 0<=l.foldl (λm v=>max m (L.getD v.toNat 0)) m
 | [],m=>⟨kS _,by simp⟩
 | x :: r,m=>by
  have h:=K7 L r (max m (L.getD x.toNat 0))
  rw [lu]
  refine ⟨by omega,λv hv=>?_⟩
  rcases cv.1 hv with rfl|hv
  ·omega
  ·exact h.2 v hv
theorem Hz {L l:List Int} {v:Int} (h:v∈l):L.getD v.toNat 0<=bW L l:=(K7 L l 0).2 v h
theorem xl (L l:List Int):0<=bW L l:=(K7 L l 0).1
theorem w9 {L:List Int}:∀{l:List Int} {m M:Int},m<=M->(∀v∈l,L.getD v.toNat 0<=M)->l.foldl (λm v=>max m (L.getD v.toNat 0)) m<=M
 | [],m,M,h,_=>h
 | x :: r,m,M,h,k=>by
  rw [lu]
  exact w9 (by have:=k x (by simp);omega) λv hv=>k v (by simp [hv])
theorem abQ {L a b:List Int} (h:dA a b=true):bW L a<=bW L b:=w9 (xl L b) λv hv=>Hz (pN.1 h v hv)
def iO (f:List Int->Int):List Int->List (List Int)->List Int
 | m,[]=>m
 | m,x :: r=>if f x - f m < 0 then iO f x r else iO f m r
theorem DR {f:List Int->Int}:∀{r:List (List Int)} {m:List Int},iO f m r∈m :: r
 | [],m=>by simp [iO]
 | x :: r,m=>by
  unfold iO
  split
  ·exact qE _ DR
  ·rcases cv.1 (DR (f:=f) (r:=r) (m:=m)) with h|h<;>simp [h]
theorem TW {f:List Int->Int}:∀{r:List (List Int)} {m:List Int},∀x∈m :: r,f (iO f m r)<=f x
 | [],m=>by simp [iO]
 | y :: r,m=>by
  intro x hx
  unfold iO
  have h1:=λm=>TW (f:=f) (r:=r) (m:=m)
  split
  ·have h2:=h1 y y (by simp)
   rcases cv.1 hx with rfl|hx
   ·omega
   ·exact h1 y x hx
  ·have h2:=h1 m m (by simp)
   rcases cv.1 hx with rfl|hx
   ·exact h2
   ·rcases cv.1 hx with rfl|hx
    ·omega
    ·exact h1 m x (qE _ hx)
structure dW where
 labels:List Int
 gv:List (List (List Int))
 leaves:List (List Int)
def nP (C:List (List (List Int))) (ops:List Int):List (List Int):=n7 (ops.foldl (λall o=>p8 all (C.getD o.toNat [])) [[]])
def Et (v:Int):List (List Int)->List (List Int)
 | []=>[[v]]
 | x :: r=>if x.length=0 then x :: r else [v] :: x :: r
def jY (I:Nat):dW:=⟨List.replicate (2+I) 0,[[[]],[[]]]++(List.range I).map (λk:Nat=>[[2+(k:Int)]]),List.replicate (2+I) []⟩
def uB (s:dW) (g:Gate):Option dW :=
 let v:Int:=s.labels.length
 if g.op=7 then some ⟨s.labels++[1+bW s.labels (cH g)],s.gv++[[[v]]],s.leaves++[cH g]⟩
 else match nP s.gv (cH g) with
  | []=>none
  | x :: r=>if (Et v (x :: r)).length > 400 then none
   else some ⟨s.labels++[1+bW s.labels (iO (bW s.labels) x r)],s.gv++[Et v (x :: r)],s.leaves++[iO (bW s.labels) x r]⟩
def iZ (I:Nat) (gs:List Gate):Option dW:=gs.foldl (λs g=>s.bind λs=>uB s g) (some (jY I))
theorem HF (I:Nat) (gs:List Gate) (g:Gate):iZ I (gs++[g])=(iZ I gs).bind λs=>uB s g:=by simp [iZ,List.foldl_append]
abbrev lG (I:Nat) (gs:List Gate) (l:List Int) (S:Int->Prop):Prop:=∀o∈l,gJ I gs S o
theorem oi.perm {Q:(Int->Prop)->Prop} {m:Int} {C D:List (List Int)} (h:oi Q m C) (hp:D.Perm C):oi Q m D :=
 ⟨λc hc=>h.inc c (hp.mem_iff.1 hc),λc hc=>h.len c (hp.mem_iff.1 hc),λc hc=>h.lim c (hp.mem_iff.1 hc),λc hc=>h.cut c (hp.mem_iff.1 hc),
  λS hS hq=>by obtain ⟨c,hc,hs⟩:=h.all S hS hq;exact ⟨c,hp.mem_iff.2 hc,hs⟩,hp.symm.pairwise h.v8 λh=>⟨h.2,h.1⟩⟩
theorem oi.up {Q Q':(Int->Prop)->Prop} {m m':Int} {C:List (List Int)} (h:oi Q m C) (hm:m<=m') (hq:∀S,Q S↔Q' S):oi Q' m' C :=
 ⟨h.inc,h.len,λc hc x hx=>by have:=h.lim c hc x hx;omega,λc hc=>(hq _).1 (h.cut c hc),λS hS k=>h.all S hS ((hq _).2 k),h.v8⟩
structure lX (I:Nat) (gs:List Gate) (s:dW):Prop where
 len:s.labels.length=2+I+gs.length
 Cj:s.gv.length=2+I+gs.length
 oN:s.leaves.length=2+I+gs.length
 cut:∀(v:Nat) (C:List (List Int)),s.gv[v]?=some C->oi (λS=>gJ I gs S v) (v+1) C/\C≠[]
 gY:∀C∈s.gv,C.length<=400
 zero:∀(v:Nat) (x:Int),v < 2+I->s.labels[v]?=some x->x=0
 pos:∀x∈s.labels,0<=x
 gK:∀(i:Nat) (l:List Int),s.leaves[2+I+i]?=some l->s.labels[2+I+i]?=some (1+bW s.labels l)
 lf:∀(i:Nat) (l:List Int) (g:Gate),s.leaves[2+I+i]?=some l->gs[i]?=some g->if g.op=7 then l=cH g else
  gd l/\l.length<=4/\(∀x∈l,2<=x/\x < 2+I+i)/\lG I gs (cH g) (·∈l)/\(∀S:List Int,S.length<=4->lG I gs (cH g) (·∈S)->dA S l=true->dA l S=true) /\
   ∀S:List Int,S.length<=4->lG I gs (cH g) (·∈S)->bW s.labels l<=bW s.labels S
theorem L5 {I:Nat} {gs:List Gate} (G:cC I gs) {s:dW} (h:lX I gs s) {m:Nat} (hm:m<=2+I+gs.length) {l:List Int} (ho:∀o∈l,0<=o/\o < m):oi (lG I gs l) m (nP s.gv l):=by
 suffices H:∀(l:List Int) (Q:(Int->Prop)->Prop) (A:List (List Int)),(∀S T:Int->Prop,(∀x,S x->T x)->Q S->Q T)->oi Q m A->(∀o∈l,0<=o/\o < m) ->
   oi (λS=>Q S/\lG I gs l S) m (l.foldl (λall o=>p8 all (s.gv.getD o.toNat [])) A) by
  have h1:oi (λ_=>True) m [[]]:=⟨by simp,by simp,by simp,λ_ _=>trivial,λS _ _=>⟨[],by simp,by simp [dA]⟩,by simp⟩
  exact ((H l _ _ (λ_ _ _ _=>trivial) h1 ho).perm (wX _)).up (kS _) λS=>by simp
 intro l
 induction l with
 | nil=>intro Q A _ hA _;exact hA.up (kS _) λS=>by simp [lG]
 | cons o r ih =>
  intro Q A hQ hA ho
  obtain ⟨h0,h1⟩:=ho o (by simp)
  have aP:o.toNat < s.gv.length:=by rw [h.Cj];omega
  have hC:=(h.cut o.toNat _ (eG aP)).1
  have e:s.gv.getD o.toNat []=s.gv[o.toNat]:=by rw [List.getD_eq_getElem?_getD,eG aP];rfl
  rw [lu,e]
  have hC':oi (λS=>gJ I gs S o) m s.gv[o.toNat]:=hC.up (by omega) λS=>by rw [Int.toNat_of_nonneg h0]
  refine (ih _ _ ?_ (hA.step hC' hQ λS T J3=>gJ.mono J3) λx hx=>ho x (by simp [hx])).up (kS _) λS=>?_
  ·exact λS T J3 hq=>⟨hQ S T J3 hq.1,hq.2.mono J3⟩
  ·constructor
   ·rintro ⟨⟨a,b⟩,c⟩
    refine ⟨a,λx hx=>?_⟩
    rcases cv.1 hx with rfl|hx
    ·exact b
    ·exact c x hx
   ·rintro ⟨a,b⟩
    exact ⟨⟨a,b o (by simp)⟩,λx hx=>b x (by simp [hx])⟩
theorem gJ.less {I:Nat} {gs hs:List Gate} (G:cC I (gs++hs)) {S:Int->Prop} {v:Int} (k:gJ I (gs++hs) S v) (hv:v < 2+I+gs.length):gJ I gs S v:=by
 induction k with
 | mem h1=>exact .mem h1
 | const h1 h2=>exact .const h1 h2
 | @gate i g h1 h2 h3 ih =>
  have hi:i < gs.length:=by omega
  have h4:gs[i]?=some g:=by rw [jk hi] at h1;exact h1
  refine .gate h4 h2 λo ho=>ih o ho ?_
  have:=(G.ops h1 o ho).2
  omega
theorem gJ.same {I:Nat} {gs hs:List Gate} (G:cC I (gs++hs)) {S:Int->Prop} {v:Int} (hv:v < 2+I+gs.length):gJ I gs S v↔gJ I (gs++hs) S v:=⟨gJ.more,λh=>h.less G hv⟩
theorem lG.same {I:Nat} {gs hs:List Gate} (G:cC I (gs++hs)) {S:Int->Prop} {l:List Int} (hl:∀o∈l,o < 2+I+gs.length):lG I gs l S↔lG I (gs++hs) l S :=
 ⟨λh o ho=>(h o ho).more,λh o ho=>(h o ho).less G (hl o ho)⟩
theorem cC.left {I:Nat} {gs hs:List Gate} (G:cC I (gs++hs)):cC I gs :=
 ⟨by have:=G.mK;simp at this;omega,λi g h=>G.cq i g (by rw [jk (bf.1 h).1];exact h)⟩
theorem Ha {L l:List Int} {y:Int} (h:∀x∈l,x.toNat < L.length):bW (L++[y]) l=bW L l:=by
 unfold bW
 have:∀(l:List Int) (m:Int),(∀x∈l,x.toNat < L.length)->l.foldl (λm v=>max m ((L++[y]).getD v.toNat 0)) m=l.foldl (λm v=>max m (L.getD v.toNat 0)) m:=by
  intro l
  induction l with
  | nil=>intro m _;rfl
  | cons x r ih =>
   intro m h
   have hx:=h x (by simp)
   rw [lu,lu,ih _ λz hz=>h z (by simp [hz]),List.getD_eq_getElem?_getD,jk hx,<-List.getD_eq_getElem?_getD]
 exact this l 0 h
theorem Rx {L:List Int} {y:Int} (hy:0<=y) (l:List Int):bW L l<=bW (L++[y]) l:=by
 refine w9 (xl _ l) λv hv=>wY ?_ (Hz hv)
 rw [List.getD_eq_getElem?_getD,List.getD_eq_getElem?_getD,DC]
 split
 ·exact kS _
 ·rename_i h
  rw [oD (by omega)]
  cases h2:[y][v.toNat - L.length]? with
  | none=>exact kS _
  | some z =>
   have:=cM h2
   simp at this;subst this;exact hy
theorem acn (I:Nat):lX I [] (jY I):=by
 have hc:∀(v:Nat) (C:List (List Int)),(jY I).gv[v]?=some C->(v < 2/\C=[[]])\/(2<=v/\v < 2+I/\C=[[(v:Int)]]):=by
  intro v C h
  match v,h with
  | 0,h=>simp [jY] at h;exact .inl ⟨by omega,h.symm⟩
  | 1,h=>simp [jY] at h;exact .inl ⟨by omega,h.symm⟩
  | v+2,h =>
   simp [jY] at h
   obtain ⟨k,h1,h2⟩:=h
   obtain ⟨h3,h4⟩:=bf.1 h1
   simp at h3 h4
   exact .inr ⟨by omega,by omega,by rw [<-h2,<-h4,show ((v+2:Nat):Int)=2+(v:Int) by omega]⟩
 refine ⟨by simp [jY],by simp [jY];omega,by simp [jY],λv C h=>?_,λC h=>?_,λv x _ h=>?_,λx h=>?_,λi l h=>?_,λi l g h hg=>by simp at hg⟩
 ·rcases hc v C h with ⟨hv,rfl⟩|⟨h1,h2,rfl⟩
  ·exact ⟨⟨by simp,by simp,by simp,λc hc=>.const (by omega) (by omega),λS _ _=>⟨[],by simp,by simp [dA]⟩,by simp⟩,by simp⟩
  ·refine ⟨⟨by simp,by simp,λc hc x hx=>?_,λc hc=>?_,λS _ hS=>⟨[(v:Int)],by simp,?_⟩,by simp⟩,by simp⟩
   ·simp at hc;subst hc;simp at hx;omega
   ·simp at hc;subst hc;exact .mem (by simp)
   ·rw [pN];intro x hx;simp at hx;subst hx;exact hS.input (by omega) (by omega)
 ·obtain ⟨v,hv⟩:=qG h
  rcases hc v C hv with ⟨_,rfl⟩|⟨_,_,rfl⟩<;>simp
 ·simp [jY,ud] at h;exact h.2.symm
 ·simp [jY] at h;omega
 ·exfalso
  have:=(bf.1 h).1
  simp [jY] at this
  omega
theorem adt {M:List (List Int)} (ha:Ji M) {x:List Int} {r:List (List Int)} (hM:M=x :: r) (hx:x.length=0):r=[]:=by
 subst hM
 cases r with
 | nil=>rfl
 | cons y r =>
  have:=((eX.1 ha).1 y (by simp)).1
  rw [gM hx] at this
  simp [dA] at this
theorem SP (v:Int) (x:List Int) (r:List (List Int)):Et v (x :: r)=if x.length=0 then x :: r else [v] :: x :: r:=rfl
theorem aeB {I:Nat} {gs:List Gate} {g:Gate} (G:cC I (gs++[g])) {s s':dW} (h:lX I gs s) (e:uB s g=some s'):lX I (gs++[g]) s':=by
 have G0:=G.left
 have hg:(gs++[g])[gs.length]?=some g:=by simp
 have z6:=G.ops hg
 have aP:∀o∈cH g,o < 2+(I:Int)+gs.length:=λo ho=>(z6 o ho).2
 have key:∀(c:List (List Int)) (l:List Int),s'=⟨s.labels++[1+bW s.labels l],s.gv++[c],s.leaves++[l]⟩->(oi (λS=>gJ I (gs++[g]) S (2+I+gs.length:Nat)) ((2+I+gs.length:Nat)+1) c/\c≠[])->c.length<=400 ->
   (∀x∈l,0<=x/\x < 2+(I:Int)+gs.length)->(if g.op=7 then l=cH g else gd l/\l.length<=4/\(∀x∈l,2<=x/\x < 2+(I:Int)+gs.length)/\lG I (gs++[g]) (cH g) (·∈l) /\
    (∀S:List Int,S.length<=4->lG I (gs++[g]) (cH g) (·∈S)->dA S l=true->dA l S=true)/\∀S:List Int,S.length<=4->lG I (gs++[g]) (cH g) (·∈S)->bW s.labels l<=bW s.labels S)->lX I (gs++[g]) s':=by
  intro c l uX N2 hc4 hl ca
  subst uX
  have hy:0<=1+bW s.labels l:=by have:=xl s.labels l;omega
  refine ⟨by simp [h.len];omega,by simp [h.Cj];omega,by simp [h.oN];omega,λv C hv=>?_,λC hC=>?_,λv x hv hx=>?_,λx hx=>?_,λi l' jr=>?_,λi l' g' jr kI=>?_⟩
  ·rw [DC] at hv
   split at hv
   ·rename_i aP
    rw [h.Cj] at aP
    obtain ⟨h1,h2⟩:=h.cut v C hv
    exact ⟨h1.up (kS _) λS=>gJ.same G (by omega),h2⟩
   ·rename_i aP
    have jH:v=2+I+gs.length:=by
     have:=(bf.1 hv).1
     rw [h.Cj] at this aP
     simp at this;omega
    subst jH
    simp [h.Cj] at hv
    subst hv
    exact N2
  ·rcases eF.1 hC with hC|hC
   ·exact h.gY C hC
   ·simp at hC;subst hC;exact hc4
  ·rw [jk (by rw [h.len];omega)] at hx
   exact h.zero v x hv hx
  ·rcases eF.1 hx with hx|hx
   ·exact h.pos x hx
   ·simp at hx;omega
  ·by_cases hi:i < gs.length
   ·rw [jk (by rw [h.oN];omega)] at jr
    rw [jk (by rw [h.len];omega),h.gK i l' jr,Ha λx hx=>?_]
    rw [h.len]
    have pv:=eG hi
    have:=h.lf i l' _ jr pv
    split at this
    ·subst this;have:=G0.ops pv x hx;omega
    ·have:=this.2.2.1 x hx;omega
   ·have dv:i=gs.length:=by
     have:=(bf.1 jr).1
     simp [h.oN] at this;omega
    subst dv
    have e1:(s.leaves++[l])[2+I+gs.length]?=some l:=by rw [<-h.oN];simp
    have e2:(s.labels++[1+bW s.labels l])[2+I+gs.length]?=some (1+bW s.labels l):=by rw [<-h.len];simp
    simp only at jr ⊢
    rw [e1] at jr
    cases jr
    rw [e2,Ha λx hx=>by rw [h.len];have:=hl x hx;omega]
  ·by_cases hi:i < gs.length
   ·rw [jk (by rw [h.oN];omega)] at jr
    rw [jk hi] at kI
    have fg:∀o∈cH g',o < 2+(I:Int)+gs.length:=λo ho=>by have:=G0.ops kI o ho;omega
    have:=h.lf i l' g' jr kI
    split at this
    ·rename_i h7;rw [if_pos h7];exact this
    ·rename_i h7
     rw [if_neg h7]
     obtain ⟨a1,a2,a3,a4,a5,a6⟩:=this
     refine ⟨a1,a2,a3,(lG.same G fg).1 a4,λS hS hq=>a5 S hS ((lG.same G fg).2 hq),λS hS hq=>?_⟩
     rw [Ha λx hx=>by rw [h.len];have:=a3 x hx;omega]
     exact wY (a6 S hS ((lG.same G fg).2 hq)) (Rx hy S)
   ·have dv:i=gs.length:=by
     have:=(bf.1 kI).1
     simp at this;omega
    subst dv
    rw [hg] at kI;cases kI
    have e1:(s.leaves++[l])[2+I+gs.length]?=some l:=by rw [<-h.oN];simp
    simp only at jr
    rw [e1] at jr
    cases jr
    split at ca
    ·rename_i h7;rw [if_pos h7];exact ca
    ·rename_i h7
     rw [if_neg h7]
     obtain ⟨a1,a2,a3,a4,a5,a6⟩:=ca
     refine ⟨a1,a2,a3,a4,a5,λS hS hq=>?_⟩
     rw [Ha λx hx=>by rw [h.len];have:=a3 x hx;omega]
     exact wY (a6 S hS hq) (Rx hy S)
 have iy:((s.labels.length:Nat):Int)=2+(I:Int)+gs.length:=by rw [h.len];omega
 have CR:(((2+I+gs.length:Nat)):Int)=2+(I:Int)+gs.length:=by omega
 unfold uB at e
 split at e
 ·rename_i h7
  cases e
  refine key _ _ rfl ⟨⟨by simp,by simp,λc hc x hx=>?_,λc hc=>?_,λS _ hS=>⟨_,qH.2 rfl,?_⟩,by simp⟩,by simp⟩ (by simp) z6 (by rw [if_pos h7])
  ·simp only [qH] at hc;subst hc;simp only [qH] at hx;omega
  ·simp only [qH] at hc;subst hc;rw [CR,<-iy];exact .mem (by simp)
  ·rw [pN]
   intro x hx
   simp only [qH] at hx
   subst hx
   rw [iy]
   rw [CR] at hS
   by_cases hm:2+(I:Int)+gs.length∈S
   ·exact hm
   ·exact absurd h7 (hS.inv hg hm).1
 ·rename_i h7
  have hM:=L5 G0 h (m:=2+I+gs.length) (fN _) (l:=cH g) λo ho=>by have:=z6 o ho;omega
  have hMq:∀S,lG I gs (cH g) S↔lG I (gs++[g]) (cH g) S:=λS=>lG.same G aP
  have hM:=hM.up (kS _) hMq
  cases hm:nP s.gv (cH g) with
  | nil=>rw [hm] at e;cases e
  | cons x r =>
   rw [hm] at e hM
   simp only at e
   split at e
   ·cases e
   ·rename_i arc
    cases e
    have fP:=DR (f:=bW s.labels) (r:=r) (m:=x)
    have Cl:=hM.lim _ fP
    have kI:∀S,gJ I (gs++[g]) S (2+I+gs.length:Nat)->¬S (2+(I:Int)+gs.length)->lG I (gs++[g]) (cH g) S:=λS hS hn=>by
     rw [CR] at hS
     exact (hS.inv hg hn).2
    refine key _ _ rfl ⟨?_,?_⟩ (by omega) (λy hy=>by have:=Cl y hy;omega) (by
     rw [if_neg h7]
     refine ⟨hM.inc _ fP,hM.len _ fP,λy hy=>by have:=Cl y hy;omega,hM.cut _ fP,λS hS hq EX=>?_,λS hS hq=>?_⟩
     ·obtain ⟨c,hc,fQ⟩:=hM.all S hS hq
      have j3:=K6 fQ EX
      by_cases lM:c=iO (bW s.labels) x r
      ·rw [<-lM];exact fQ
      ·have:=aeC hM.v8 hc fP lM
       rw [j3] at this;cases this
     ·obtain ⟨c,hc,fQ⟩:=hM.all S hS hq
      exact wY (TW c hc) (abQ fQ))
    ·rw [SP]
     split
     ·rename_i h0
      have hr:=adt hM.v8 rfl h0
      subst hr
      have hx:x=[]:=gM h0
      subst hx
      refine ⟨by simp,by simp,by simp,λc hc=>?_,λS _ _=>⟨[],by simp,by simp [dA]⟩,by simp⟩
      simp at hc;subst hc
      rw [CR]
      exact .gate hg h7 (hM.cut [] (by simp))
     ·rename_i h0
      refine ⟨λc hc=>?_,λc hc=>?_,λc hc y hy=>?_,λc hc=>?_,λS hS hq=>?_,?_⟩
      ·rcases cv.1 hc with rfl|hc
       ·simp
       ·exact hM.inc c hc
      ·rcases cv.1 hc with rfl|hc
       ·simp
       ·exact hM.len c hc
      ·rcases cv.1 hc with rfl|hc
       ·simp only [qH] at hy;omega
       ·have:=hM.lim c hc y hy;omega
      ·rcases cv.1 hc with rfl|hc
       ·rw [CR,<-iy];exact .mem (by simp)
       ·rw [CR];exact .gate hg h7 (hM.cut c hc)
      ·by_cases hm:2+(I:Int)+gs.length∈S
       ·exact ⟨_,Ls,by rw [pN];intro y hy;simp only [qH] at hy;subst hy;rw [iy];exact hm⟩
       ·obtain ⟨c,hc,fQ⟩:=hM.all S hS (kI _ hq hm)
        exact ⟨c,qE _ hc,fQ⟩
      ·refine eX.2 ⟨λc hc=>?_,hM.v8⟩
       have j3:=hM.lim c hc
       refine ⟨?_,?_⟩
       ·cases hq:dA [(s.labels.length:Int)] c with
        | false=>rfl
        | true=>have:=j3 _ (pN.1 hq (s.labels.length:Int) (by simp));omega
       ·cases hq:dA c [(s.labels.length:Int)] with
        | false=>rfl
        | true =>
         cases c with
         | nil =>
          have:=acm hm ((wX _).mem_iff.1 (show []∈n7 _ by show []∈nP s.gv (cH g);rw [hm];exact hc))
          simp at this;exact absurd (by rw [this];rfl) h0
         | cons y c =>
          have h1:=pN.1 hq y (by simp)
          have h2:=j3 y (by simp)
          simp at h1;omega
    ·rw [SP];split<;>simp
where
 aeC {L:List (List Int)} (h:Ji L) {a b:List Int} (ha:a∈L) (hb:b∈L) (bR:a≠b):dA a b=false:=by
  induction L with
  | nil=>cases ha
  | cons x r ih =>
   have h':=eX.1 h
   rcases cv.1 ha with e|ZB
   ·rcases cv.1 hb with e'|gG
    ·exact absurd (e.trans e'.symm) bR
    ·rw [e];exact (h'.1 b gG).1
   ·rcases cv.1 hb with e'|gG
    ·rw [e'];exact (h'.1 a ZB).2
    ·exact ih h'.2 ZB gG
theorem aco {I:Nat} {gs:List Gate} {g:Gate} (G:cC I (gs++[g])) {s:dW} (h:lX I gs s):nP s.gv (cH g)≠[]:=by
 have z6:=G.ops (i:=gs.length) (g:=g) (by simp)
 have hM:=L5 G.left h (m:=2+I+gs.length) (fN _) (l:=cH g) λo ho=>by have:=z6 o ho;omega
 obtain ⟨c,hc,_⟩:=hM.all (cH g) (by have:=(vI g).2;omega) λo ho=>.mem ho
 exact List.ne_nil_of_mem hc
theorem HQ {I:Nat}:∀(n:Nat) {gs:List Gate} {s:dW},gs.length=n->cC I gs->iZ I gs=some s->lX I gs s
 | 0,gs,s,hn,_,h=>by
  have:=gM hn
  subst this
  simp [iZ] at h;subst h;exact acn I
 | n+1,gs,s,hn,G,h=>by
  have bR:gs≠[]:=λe=>by rw [e] at hn;simp at hn
  have e:=List.dropLast_concat_getLast bR
  rw [<-e] at G h ⊢
  rw [HF] at h
  cases h1:iZ I gs.dropLast with
  | none=>rw [h1] at h;cases h
  | some s0=>rw [h1] at h;exact aeB G (HQ n (by simp [hn]) G.left h1) h
def vX (nd:List Bool) (l:List Int):List Bool:=l.foldl (λnd x=>nd.set x.toNat true) nd
def BW (nx:Nat->List Int):Nat->List Bool->List Bool
 | 0,nd=>nd
 | v+1,nd=>BW nx v (if nd.getD v false then vX nd (nx v) else nd)
inductive ox (nx:Nat->List Int) (S:Nat->Prop):Nat->Prop
 | base {v:Nat}:S v->ox nx S v
 | step {u:Nat} {x:Int}:ox nx S u->x∈nx u->ox nx S x.toNat
theorem ox.mono {nx:Nat->List Int} {S T:Nat->Prop} (h:∀v,S v->ox nx T v) {v:Nat} (k:ox nx S v):ox nx T v:=by
 induction k with
 | base h1=>exact h _ h1
 | step _ h2 ih=>exact .step ih h2
theorem HA:∀(l:List Int) (nd:List Bool),(vX nd l).length=nd.length
 | [],nd=>rfl
 | x :: r,nd=>by unfold vX;rw [lu];exact (HA r _).trans (by simp)
theorem xa:∀{l:List Int} {nd:List Bool} {v:Nat},(vX nd l)[v]?=some true↔nd[v]?=some true\/v < nd.length/\∃x∈l,x.toNat=v
 | [],nd,v=>by simp [vX]
 | x :: r,nd,v=>by
  unfold vX
  rw [lu]
  have h:=xa (l:=r) (nd:=nd.set x.toNat true) (v:=v)
  unfold vX at h
  rw [h,jP,y8]
  by_cases e:x.toNat=v
  ·subst e
   by_cases hl:x.toNat < nd.length
   ·simp [hl]
   ·simp [hl]
  ·simp only [e,if_false,cv]
   constructor
   ·rintro (h|⟨h,y,hy,he⟩)
    ·exact .inl h
    ·exact .inr ⟨h,y,.inr hy,he⟩
   ·rintro (h|⟨h,y,hy|hy,he⟩)
    ·exact .inl h
    ·subst hy;exact absurd he e
    ·exact .inr ⟨h,y,hy,he⟩
theorem DS {nd:List Bool} {v:Nat}:nd.getD v false=true↔nd[v]?=some true:=by
 rw [List.getD_eq_getElem?_getD]
 cases nd[v]? with
 | none=>simp
 | some b=>simp
theorem L6 {nx:Nat->List Int} (hx:∀(v:Nat) (x:Int),x∈nx v->0<=x/\x < v):∀(n:Nat) {nd:List Bool} {v:Nat},(∀u,n<=u->nd[u]?=some true->∀x∈nx u,nd[x.toNat]?=some true) ->
  ((BW nx n nd)[v]?=some true↔v < nd.length/\ox nx (λu=>nd[u]?=some true) v)
 | 0,nd,v,hc=>by
  show nd[v]?=some true↔_
  refine ⟨λh=>⟨(bf.1 h).1,.base h⟩,λhh=>?_⟩
  have h:=hh.2
  clear hx hh
  induction h with
  | base h=>exact h
  | step h1 h2 ih=>exact hc _ (cI _) (ih) _ h2
 | n+1,nd,v,hc=>by
  unfold BW
  rw [L6 hx n (λu hu hm x J4=>?_)]
  ·split
   ·rename_i hn
    have hn:=DS.1 hn
    rw [HA]
    refine and_congr_right λhv=>⟨λh=>h.mono λu hu=>?_,λh=>h.mono λu hu=>.base (xa.2 (.inl hu))⟩
    rcases xa.1 hu with hu|⟨_,x,hx,rfl⟩
    ·exact .base hu
    ·exact .step (.base hn) hx
   ·exact vz
  ·by_cases jq:u=n
   ·subst jq
    split at hm
    ·rename_i hn
     rw [if_pos hn]
     have:=hx u x J4
     refine xa.2 (.inr ⟨?_,x,J4,rfl⟩)
     have:=(bf.1 (DS.1 hn)).1
     omega
    ·rename_i hn
     exact absurd (DS.2 hm) hn
   ·split at hm
    ·rename_i hn
     rw [if_pos hn]
     have ard:n < u:=by omega
     rcases xa.1 hm with hm|⟨_,y,hy,he⟩
     ·exact xa.2 (.inl (hc u (by omega) hm x J4))
     ·have:=hx n y hy;omega
    ·rename_i hn
     rw [if_neg hn]
     exact hc u (by omega) hm x J4
def gI (I:Nat) (gs:List Gate) (v:Nat):Option Gate:=if v < 2+I then none else gs[v - 2 - I]?
def sD (I:Nat) (gs:List Gate) (S:List Int) (v:Nat):List Int:=if S.contains (v:Int) then [] else match gI I gs v with
 | some g=>if g.op=7 then [] else cH g
 | none=>[]
def tl (I:Nat) (gs:List Gate) (S:List Int) (v:Nat):Bool:=S.contains (v:Int)||decide (v < 2)||match gI I gs v with
 | some g=>decide (g.op≠7)
 | none=>false
def zq (I:Nat) (gs:List Gate) (root:Nat) (S:List Int):List Bool:=BW (sD I gs S) (root+1) ((List.replicate (root+1) false).set root true)
def pP (N root:Int) (S:List Int):Bool:=decide (2<=root/\root < N)&&decide (S.length<=4)&&S.all (λl=>decide (2<=l/\l<=root))&&decide (gd S)
def iD (I:Nat) (gs:List Gate) (root:Int) (S:List Int):Option (List Int) :=
 if pP (2+I+gs.length) root S then
  let R:=zq I gs root.toNat S
  if (List.range (root.toNat+1)).all (λv=>!R.getD v false||tl I gs S v)&&S.all (λx=>R.getD x.toNat false) then
   some (((List.range (root.toNat+1)).filter λv=>R.getD v false&&!S.contains (v:Int)&&decide (2<=v)).map λv:Nat=>(v:Int))
  else none
 else none
abbrev gF (I:Nat) (gs:List Gate) (S:List Int) (root v:Nat):Prop:=ox (sD I gs S) (λu=>u=root) v
theorem pJ {I:Nat} {gs:List Gate} {v:Nat} {g:Gate}:gI I gs v=some g↔∃i,v=2+I+i/\gs[i]?=some g:=by
 unfold gI
 split
 ·simp;intro i hi;omega
 ·constructor
  ·intro h;exact ⟨v - 2 - I,by omega,h⟩
  ·rintro ⟨i,rfl,h⟩
   rw [show 2+I+i - 2 - I=i by omega];exact h
theorem qL {I:Nat} {gs:List Gate} {S:List Int} {v:Nat} {x:Int}:x∈sD I gs S v↔(v:Int)∉S/\∃g,gI I gs v=some g/\g.op≠7/\x∈cH g:=by
 unfold sD
 split
 ·rename_i h;simp at h;simp [h]
 ·rename_i h
  simp at h
  cases hg:gI I gs v with
  | none=>simp
  | some g =>
   simp only
   split
   ·rename_i h7;simp [h7]
   ·rename_i h7;simp [h7,h]
theorem Eu {I:Nat} {gs:List Gate} (G:cC I gs) {S:List Int} {v:Nat} {x:Int} (h:x∈sD I gs S v):0<=x/\x < v:=by
 obtain ⟨_,g,hg,_,hx⟩:=qL.1 h
 obtain ⟨i,rfl,pv⟩:=pJ.1 hg
 have:=G.ops pv x hx
 omega
theorem gF.le {I:Nat} {gs:List Gate} (G:cC I gs) {S:List Int} {root v:Nat} (h:gF I gs S root v):v<=root:=by
 induction h with
 | base h=>omega
 | step _ h2 ih=>have:=Eu G h2;omega
theorem sX {I:Nat} {gs:List Gate} (G:cC I gs) {S:List Int} {root v:Nat}:(zq I gs root S).getD v false=true↔gF I gs S root v:=by
 rw [DS]
 unfold zq
 have hs:∀u,((List.replicate (root+1) false).set root true)[u]?=some true↔u=root:=λu=>by
  rw [jP]
  by_cases e:root=u
  ·subst e;simp
  ·simp [e,ud];omega
 rw [L6 (λv x=>Eu G) _ λu hu hm=>by have:=(hs u).1 hm;omega]
 constructor
 ·rintro ⟨_,h⟩;exact h.mono λu hu=>.base ((hs u).1 hu)
 ·intro h
  exact ⟨by have:=gF.le G h;simp;omega,h.mono λu hu=>.base ((hs u).2 hu)⟩
theorem yZ {I:Nat} {gs:List Gate} {S:List Int} {v:Nat}:tl I gs S v=true↔(v:Int)∈S\/v < 2\/∃g,gI I gs v=some g/\g.op≠7:=by
 unfold tl
 cases gI I gs v<;>simp [or_assoc]
theorem SQ {I:Nat} {gs:List Gate} (G:cC I gs) {S:List Int}:∀(n root:Nat),root < n->(gJ I gs (·∈S) root↔∀v,gF I gs S root v->tl I gs S v=true)
 | 0,_,h=>by omega
 | n+1,root,hn=>by
  constructor
  ·intro h v hv
   generalize hr:(root:Int)=r at h
   have main:∀(r:Int),gJ I gs (·∈S) r->∀root:Nat,(root:Int)=r->∀v,gF I gs S root v->tl I gs S v=true:=by
    intro r h
    induction h with
    | mem h1 =>
     rintro root rfl v hv
     have:v=root:=by
      induction hv with
      | base h=>exact h
      | step _ h2 ih=>rw [ih] at h2;exact absurd h1 (qL.1 h2).1
     subst this
     exact yZ.2 (.inl h1)
    | const h1 h2 =>
     rintro root rfl v hv
     have:=gF.le G hv
     exact yZ.2 (.inr (.inl (by omega)))
    | @gate i g h1 h2 h3 ih =>
     intro root hr v hv
     have ag7:root=2+I+i:=by omega
     subst ag7
     have Aw:gI I gs (2+I+i)=some g:=pJ.2 ⟨i,rfl,h1⟩
     have:v=2+I+i\/∃o∈cH g,gF I gs S o.toNat v:=by
      induction hv with
      | base h=>exact .inl h
      | step _ hx ihx =>
       rcases ihx with rfl|⟨o,ho,hr⟩
       ·obtain ⟨_,g',kI,_,jD⟩:=qL.1 hx
        rw [Aw] at kI;cases kI
        exact .inr ⟨_,jD,.base rfl⟩
       ·exact .inr ⟨o,ho,.step hr hx⟩
     rcases this with rfl|⟨o,ho,hr⟩
     ·exact yZ.2 (.inr (.inr ⟨g,Aw,h2⟩))
     ·exact ih o ho o.toNat (by have:=G.ops h1 o ho;omega) v hr
   exact main r h root hr v hv
  ·intro h
   rcases yZ.1 (h root (.base rfl)) with h1|h1|⟨g,hg,h7⟩
   ·exact .mem h1
   ·exact .const (by omega) (by omega)
   ·by_cases hm:(root:Int)∈S
    ·exact .mem hm
    ·obtain ⟨i,rfl,pv⟩:=pJ.1 hg
     have:((2+I+i:Nat):Int)=2+(I:Int)+i:=by omega
     rw [this]
     refine .gate pv h7 λo ho=>?_
     have hb:=G.ops pv o ho
     have fV:o∈sD I gs S (2+I+i):=qL.2 ⟨hm,g,hg,h7,ho⟩
     rw [<-Int.toNat_of_nonneg hb.1]
     exact (SQ G n o.toNat (by omega)).2 λv hv=>h v (hv.mono λu hu=>by subst hu;exact .step (.base rfl) fV)
structure Ev (N root:Int) (S:List Int):Prop where
 lo:2<=root
 hi:root < N
 len:S.length<=4
 mem:∀l∈S,2<=l/\l<=root
 inc:gd S
theorem yP {N root:Int} {S:List Int}:pP N root S=true↔Ev N root S:=by
 unfold pP
 simp only [b9,decide_eq_true_eq,gE]
 exact ⟨λ⟨⟨⟨h1,h2⟩,h3⟩,h4⟩=>⟨h1.1,h1.2,h2,h3,h4⟩,λh=>⟨⟨⟨⟨h.lo,h.hi⟩,h.len⟩,h.mem⟩,h.inc⟩⟩
theorem RX {I:Nat} {gs:List Gate} (G:cC I gs) {root:Int} {S:List Int}:(iD I gs root S).isSome=true↔Ev (2+I+gs.length) root S/\gJ I gs (·∈S) root/\∀x∈S,gF I gs S root.toNat x.toNat:=by
 unfold iD
 split
 ·rename_i hl
  have hL:=yP.1 hl
  have hr:((root.toNat:Nat):Int)=root:=Int.toNat_of_nonneg (by have:=hL.lo;omega)
  have h1:(List.range (root.toNat+1)).all (λv=>!(zq I gs root.toNat S).getD v false||tl I gs S v)=true↔gJ I gs (·∈S) root:=by
   rw [<-hr,SQ G (root.toNat+1) root.toNat (Ly _),hr,gE]
   constructor
   ·intro h v hv
    have:=h v (mr.2 (by have:=gF.le G hv;omega))
    rw [sX G |>.2 hv] at this
    simpa using this
   ·intro h v _
    cases hq:(zq I gs root.toNat S).getD v false with
    | false=>simp
    | true=>simp [h v ((sX G).1 hq)]
  have h2:S.all (λx=>(zq I gs root.toNat S).getD x.toNat false)=true↔∀x∈S,gF I gs S root.toNat x.toNat:=by
   rw [gE]
   exact ⟨λh x hx=>(sX G).1 (h x hx),λh x hx=>(sX G).2 (h x hx)⟩
  simp only
  rw [<-h1,<-h2]
  split
  ·rename_i h;simp only [b9] at h;exact ⟨λ_=>⟨hL,h⟩,λ_=>rfl⟩
  ·rename_i h;simp only [b9] at h;exact ⟨λh'=>(by cases h'),λh'=>absurd h'.2 h⟩
 ·rename_i hl
  have:¬Ev (2+I+gs.length) root S:=λh=>hl (yP.2 h)
  simp [this]
theorem DT {I:Nat} {gs:List Gate} (G:cC I gs) {root:Int} {S l:List Int} (h:iD I gs root S=some l):gd l/\∀v:Int,v∈l↔2<=v/\gF I gs S root.toNat v.toNat/\v∉S:=by
 unfold iD at h
 split at h
 ·simp only at h
  split at h
  ·cases h
   refine ⟨?_,λv=>?_⟩
   ·unfold gd
    rw [pM]
    exact (Br.filter _).imp λh=>by omega
   ·rw [jw]
    constructor
    ·rintro ⟨u,hu,rfl⟩
     obtain ⟨h1,h2⟩:=lx.1 hu
     simp only [b9,mX,decide_eq_true_eq] at h2
     refine ⟨by omega,(sX G).1 h2.1.1,?_⟩
     simpa using h2.1.2
    ·rintro ⟨h1,h2,h3⟩
     have e:((v.toNat:Nat):Int)=v:=Int.toNat_of_nonneg (by omega)
     refine ⟨v.toNat,lx.2 ⟨mr.2 (by have:=gF.le (root:=root.toNat) (v:=v.toNat) G h2;omega),?_⟩,e⟩
     simp only [b9,mX,decide_eq_true_eq]
     exact ⟨⟨(sX G).2 h2,by rw [e];simpa using h3⟩,by omega⟩
  ·cases h
 ·cases h
def ux (j:Nat):Int:=([0xaaaa,0xcccc,0xf0f0,0xff00]:List Int).getD j 0
def tC (a b:Int):Int:=fH .and .i64 a b
def Ax (a b:Int):Int:=fH .or .i64 a b
def Cm (a b:Int):Int:=fH .xor .i64 a b
def combineM (op a b c:Int):Int:=if op=1 then Cm (-1) a else if op=2 then tC a b else if op=3 then Ax a b else if op=4 then Cm a b else
 if op=5 then Ax (tC a b) (tC (Cm (-1) a) c) else Ax (Ax (tC a b) (tC a c)) (tC b c)
def BX (I:Nat) (gs:List Gate) (S:List Int) (f:Nat->Int) (v:Nat):Int:=match S.findIdx? (λx=>decide (x=(v:Int))) with
 | some j=>ux j
 | none=>if v=1 then -1 else match gI I gs v with
  | some g=>combineM g.op (f g.a.toNat) (f g.b.toNat) (f g.c.toNat)
  | none=>0
def xL (I:Nat) (gs:List Gate) (S:List Int):Nat->List Int
 | 0=>[]
 | n+1=>let L:=xL I gs S n;L++[BX I gs S (λu=>L.getD u 0) n]
def kZ (I:Nat) (gs:List Gate) (S:List Int) (v:Nat):Int:=(xL I gs S (v+1)).getD v 0
theorem HB (I:Nat) (gs:List Gate) (S:List Int):∀n,(xL I gs S n).length=n
 | 0=>rfl
 | n+1=>by show (xL I gs S n++[_]).length=_;rw [gn,HB I gs S n];rfl
theorem HG {I:Nat} {gs:List Gate} {S:List Int}:∀{n v:Nat},v < n->(xL I gs S n).getD v 0=kZ I gs S v
 | 0,v,h=>by omega
 | n+1,v,h=>by
  by_cases e:v=n
  ·subst e;rfl
  ·rw [<-HG (n:=n) (show v < n by omega)]
   show (xL I gs S n++[_]).getD v 0=_
   rw [List.getD_eq_getElem?_getD,jk (by rw [HB];omega),<-List.getD_eq_getElem?_getD]
theorem HR (I:Nat) (gs:List Gate) (S:List Int) (v:Nat):kZ I gs S v=BX I gs S (λu=>(xL I gs S v).getD u 0) v:=by
 show (xL I gs S v++[_]).getD v 0=_
 rw [List.getD_eq_getElem?_getD,qB (by rw [HB];omega),HB,yW]
 rfl
theorem acp {I:Nat} {gs:List Gate} (G:cC I gs) {S:List Int} {v:Nat} (hS:(v:Int)∉S) {g:Gate} (hg:gI I gs v=some g) :
  kZ I gs S v=combineM g.op (kZ I gs S g.a.toNat) (kZ I gs S g.b.toNat) (kZ I gs S g.c.toNat):=by
 obtain ⟨i,rfl,pv⟩:=pJ.1 hg
 have k:=G.cq i g pv
 have h1:S.findIdx? (λx=>decide (x=((2+I+i:Nat):Int)))=none:=by
  rw [Bp]
  intro x hx
  simp only [decide_eq_false_iff_not]
  rintro rfl
  exact hS hx
 rw [HR]
 unfold BX
 rw [h1]
 simp only [hg]
 rw [if_neg (by omega),HG (by have:=k.a;omega),HG (by have:=k.b;omega),HG (by have:=k.c;omega)]
def BK (I:Nat) (gs:List Gate) (root:Int) (S:List Int):Int:=tC (kZ I gs S root.toNat) (2^(2^S.length) - 1)
def uN (I:Nat) (gs:List Gate) (root:Int) (S:List Int):Int × Int:=match iD I gs root S with
 | none=>(0,250)
 | some _=>(BK I gs root S,0)
def mB (sig:Int->Option Int):List Int->List Int × Bool
 | []=>([],true)
 | l :: r=>match sig l with
  | none=>([],false)
  | some s=>(s :: (mB sig r).1,(mB sig r).2)
theorem Hb {sig:Int->Option Int}:∀{l:List Int},(∀x∈l,∃s,sig x=some s)->mB sig l=(l.map λx=>(sig x).getD 0,true)
 | [],_=>rfl
 | x :: r,h=>by
  obtain ⟨s,hs⟩:=h x (by simp)
  simp only [mB,hs,Hb (l:=r) λy hy=>h y (by simp [hy]),ig,rJ]
theorem KU {sig:Int->Option Int}:∀{l:List Int},(mB sig l).2=true->∀x∈l,∃s,sig x=some s
 | [],_=>by simp
 | y :: r,h=>by
  intro x hx
  simp only [mB] at h
  cases hs:sig y with
  | none=>rw [hs] at h;cases h
  | some s =>
   rw [hs] at h
   rcases cv.1 hx with rfl|hx
   ·exact ⟨s,hs⟩
   ·exact KU h x hx
def cellOf (I:Nat) (gs:List Gate) (root:Int) (S:List Int) (sig:Int->Option Int):Cell × Int :=
 if (
   mB sig S).2 then match gI I gs root.toNat with
  | some g=>if g.op=7 then (⟨(mB sig S).1,0,g.n⟩,if S=cH g then 0 else 260)
   else if S=[root] then (⟨(mB sig S).1,0,-1⟩,260)
   else (⟨(mB sig S).1,(uN I gs root S).1,-1⟩,if (uN I gs root S).2=0 then 0 else 260)
  | none=>(⟨(mB sig S).1,0,-1⟩,260)
 else (⟨(mB sig S).1,0,-1⟩,260)
def fU (I:Nat) (roots:List Int) (v:Int):Option Int:=if 0<=v/\v < 2+I then some v else (roots.findIdx? λx=>decide (x=v)).map λi:Nat=>2+(I:Int)+i
structure kA where
 root:List Int
 leaves:List (List Int)
def kU (s:dW) (v:Int):List Int:=s.leaves.getD v.toNat []
def jo (I:Nat) (s:dW) (bA:List Int):List Int :=
 let N:=s.leaves.length
 let nd:=BW (λv=>if v < 2+I then [] else s.leaves.getD v []) N (vX (List.replicate N false) bA)
 ((List.range N).filter λv=>nd.getD v false&&decide (2+I<=v)).map λv:Nat=>(v:Int)
def lW (I:Nat) (gs:List Gate) (s:dW) (bA:List Int):ea × kA :=
 let R:=jo I s bA
 let sig:=fU I R
 (⟨I,R.map λr=>(cellOf I gs r (kU s r) sig).1,bA.map λv=>(sig v).getD 0⟩,⟨R,R.map (kU s)⟩)
def mapM (I:Nat) (gs:List Gate) (bA:List Int):ea × kA × Int:=match iZ I gs with
 | none=>(⟨0,[],[]⟩,⟨[],[]⟩,2)
 | some s=>((lW I gs s bA).1,(lW I gs s bA).2,0)
def BL (x y:Cell):Bool:=decide (x.table=y.table)&&decide (x.ej=y.ej)&&decide (x.ins=y.ins)
def mw (I:Nat) (gs:List Gate) (sig:Int->Option Int):List Cell->List Int->List (List Int)->Bool
 | x :: cs,r :: rs,l :: ls=>decide ((cellOf I gs r l sig).2=0)&&BL x (cellOf I gs r l sig).1&&mw I gs sig cs rs ls
 | _,_,_=>true
def my (N:Int):Int->List Int->Bool
 | _,[]=>true
 | last,r :: rs=>decide (last < r/\r < N)&&my N r rs
def nQ (sig:Int->Option Int):List Int->List Int->Bool
 | v :: vs,s :: ss=>decide (sig v=some s)&&nQ sig vs ss
 | _,_=>true
def BM (I:Nat) (gs:List Gate) (bA:List Int) (m:ea) (c:kA):Bool :=
 (decide (m.n=I)&&decide (c.root.length=m.cells.length)&&decide (c.leaves.length=m.cells.length)&&decide (m.bA.length=bA.length)) &&
  (my (2+I+gs.length) (1+I) c.root&&(mw I gs (fU I c.root) m.cells c.root c.leaves&&nQ (fU I c.root) bA m.bA))
abbrev j9 (I:Nat) (s:dW) (v:Nat):List Int:=if v < 2+I then [] else s.leaves.getD v []
theorem MZ {I:Nat} {gs:List Gate} (G:cC I gs) {s:dW} (h:lX I gs s) (v:Nat) (x:Int) (hx:x∈j9 I s v):0<=x/\x < v:=by
 unfold j9 at hx
 split at hx
 ·cases hx
 ·cases hq:s.leaves[v]? with
  | none=>rw [List.getD_eq_getElem?_getD,hq] at hx;cases hx
  | some l =>
   rw [List.getD_eq_getElem?_getD,hq,rJ] at hx
   have iy:=(bf.1 hq).1
   rw [h.oN] at iy
   have e:2+I+(v - 2 - I)=v:=by omega
   have hg:=eG (l:=gs) (i:=v - 2 - I) (by omega)
   have:=h.lf (v - 2 - I) l _ (by rw [e];exact hq) hg
   split at this
   ·subst this;have:=G.ops hg x hx;omega
   ·have:=this.2.2.1 x hx;omega
theorem RY {I:Nat} {gs:List Gate} (G:cC I gs) {s:dW} (h:lX I gs s) {bA:List Int} (hd:∀d∈bA,0<=d/\d < 2+I+gs.length) (v:Nat) :
  (v:Int)∈jo I s bA↔2+I<=v/\v < 2+I+gs.length/\ox (j9 I s) (λu=>∃d∈bA,d.toNat=u) v:=by
 have ca:=MZ G h
 unfold jo
 simp only [jw]
 have h1:(BW (j9 I s) s.leaves.length (vX (List.replicate s.leaves.length false) bA)).getD v false=true↔v < 2+I+gs.length/\ox (j9 I s) (λu=>∃d∈bA,d.toNat=u) v:=by
  rw [DS,L6 ca _ λu hu hm=>by have:=(bf.1 hm).1;rw [HA] at this;simp at this;omega]
  rw [HA,y4,h.oN]
  refine and_congr_right λ_=>⟨λk=>k.mono λu hu=>?_,λk=>k.mono λu hu=>?_⟩
  ·rcases xa.1 hu with hu|⟨_,hu⟩
   ·simp [ud] at hu
   ·exact .base hu
  ·obtain ⟨d,mL,rfl⟩:=hu
   refine .base (xa.2 (.inr ⟨?_,d,mL,rfl⟩))
   have:=hd d mL
   simp;omega
 constructor
 ·rintro ⟨u,hu,e⟩
  have:u=v:=by omega
  subst this
  obtain ⟨_,hu⟩:=lx.1 hu
  simp only [b9,decide_eq_true_eq] at hu
  exact ⟨hu.2,h1.1 hu.1⟩
 ·rintro ⟨a,b⟩
  refine ⟨v,lx.2 ⟨mr.2 (by rw [h.oN];exact b.1),?_⟩,rfl⟩
  simp only [b9,decide_eq_true_eq]
  exact ⟨h1.2 b,a⟩
theorem RZ (I:Nat) (s:dW) (bA:List Int):gd (jo I s bA):=by
 unfold jo gd
 rw [pM]
 exact (Br.filter _).imp λh=>by omega
theorem R0 {I:Nat} {s:dW} {bA:List Int} {r:Int} (hr:r∈jo I s bA):((r.toNat:Nat):Int)=r:=by
 unfold jo at hr
 obtain ⟨u,_,rfl⟩:=jw.1 hr
 rfl
theorem Ry {I:Nat} {gs:List Gate} (G:cC I gs) {s:dW} (h:lX I gs s) {bA:List Int} (hd:∀d∈bA,0<=d/\d < 2+I+gs.length) :
  gd (jo I s bA)/\(∀r∈jo I s bA,2+(I:Int)<=r/\r < 2+I+gs.length)/\(∀d∈bA,2+(I:Int)<=d->d∈jo I s bA) /\
   (∀r∈jo I s bA,∀x∈kU s r,2+(I:Int)<=x->x∈jo I s bA)/\∀r∈jo I s bA,r∈bA\/∃u∈jo I s bA,r∈kU s u:=by
 have ca:=MZ G h
 have hm:=RY G h hd
 have nat:∀r∈jo I s bA,((r.toNat:Nat):Int)=r:=λr hr=>R0 hr
 refine ⟨RZ I s bA,λr hr=>?_,λd mL h2=>?_,λr hr x hx h2=>?_,λr hr=>?_⟩
 ·have e:=nat r hr
  rw [<-e] at hr
  have:=(hm _).1 hr
  omega
 ·have hb:=hd d mL
  have e:((d.toNat:Nat):Int)=d:=Int.toNat_of_nonneg hb.1
  rw [<-e]
  exact (hm _).2 ⟨by omega,by omega,.base ⟨d,mL,rfl⟩⟩
 ·have e:=nat r hr
  rw [<-e] at hr
  have k:=(hm _).1 hr
  have jD:x∈j9 I s r.toNat:=by unfold j9;rw [if_neg (by omega)];exact hx
  have:=ca _ x jD
  have e':((x.toNat:Nat):Int)=x:=Int.toNat_of_nonneg this.1
  rw [<-e']
  exact (hm _).2 ⟨by omega,by omega,.step k.2.2 jD⟩
 ·have e:=nat r hr
  rw [<-e] at hr
  obtain ⟨k1,k2,k3⟩:=(hm _).1 hr
  generalize hq:r.toNat=q at *
  cases k3 with
  | base hb =>
   obtain ⟨d,mL,he⟩:=hb
   have:=hd d mL
   left
   rw [show r=d by omega]
   exact mL
  | step hu hx =>
   rename_i u x
   right
   have jD:=ca _ _ hx
   unfold j9 at hx
   split at hx
   ·cases hx
   ·rename_i Yj
    refine ⟨(u:Int),(hm u).2 ⟨by omega,?_,hu⟩,?_⟩
    ·cases hq:s.leaves[u]? with
     | none=>rw [List.getD_eq_getElem?_getD,hq] at hx;cases hx
     | some l=>have:=(bf.1 hq).1;rw [h.oN] at this;exact this
    ·unfold kU
     rw [show r=x by omega]
     simpa using hx
theorem R4 {N:Int}:∀{last:Int} {R:List Int},gd R->(∀r∈R,last < r/\r < N)->my N last R=true
 | _,[],_,_=>rfl
 | last,r :: rs,h,k=>by
  have h':=eX.1 h
  simp only [my,b9,decide_eq_true_eq]
  exact ⟨k r (by simp),R4 h'.2 λx hx=>⟨h'.1 x hx,(k x (by simp [hx])).2⟩⟩
theorem R5 {sig:Int->Option Int}:∀{D:List Int},(∀d∈D,∃s,sig d=some s)->nQ sig D (D.map λv=>(sig v).getD 0)=true
 | [],_=>rfl
 | d :: r,h=>by
  obtain ⟨s,hs⟩:=h d (by simp)
  simp only [ig,nQ,b9,decide_eq_true_eq]
  exact ⟨by rw [hs];rfl,R5 λx hx=>h x (by simp [hx])⟩
theorem abu (x:Cell):BL x x=true:=by simp [BL]
theorem R6 {I:Nat} {gs:List Gate} {sig:Int->Option Int} {f:Int->List Int}:∀{R:List Int},(∀r∈R,(cellOf I gs r (f r) sig).2=0)->mw I gs sig (R.map λr=>(cellOf I gs r (f r) sig).1) R (R.map f)=true
 | [],_=>rfl
 | r :: rs,h=>by
  simp only [ig,mw,b9,decide_eq_true_eq]
  exact ⟨⟨h r (by simp),abu _⟩,R6 λx hx=>h x (by simp [hx])⟩
theorem L7 {I:Nat} {R:List Int} {v:Int} (h:(0<=v/\v < 2+I)\/v∈R):∃s,fU I R v=some s:=by
 unfold fU
 split
 ·exact ⟨_,rfl⟩
 ·rename_i hn
  rcases h with h|h
  ·exact absurd h hn
  ·cases hq:R.findIdx? (λx=>decide (x=v)) with
   | some i=>exact ⟨_,rfl⟩
   | none =>
    rw [Bp] at hq
    have:=hq v h
    simp at this
theorem acq {I:Nat} {gs:List Gate} (G:cC I gs) {i:Nat} {g:Gate} (hg:gs[i]?=some g) (h7:g.op≠7) {l:List Int} (a1:gd l) (a2:l.length<=4) (a3:∀x∈l,2<=x/\x < 2+(I:Int)+i)
  (a4:lG I gs (cH g) (·∈l)) (a5:∀S:List Int,S.length<=4->lG I gs (cH g) (·∈S)->dA S l=true->dA l S=true):(iD I gs (2+(I:Int)+i) l).isSome=true:=by
 rw [RX G]
 have hr:(2+(I:Int)+i).toNat=2+I+i:=by omega
 have hi:=(bf.1 hg).1
 refine ⟨⟨by omega,by omega,a2,λx hx=>by have:=a3 x hx;omega,a1⟩,.gate hg h7 a4,?_⟩
 rw [hr]
 classical
 have hS:∀x∈l.filter (λx=>decide (gF I gs l (2+I+i) x.toNat)),x∈l:=λx hx=>(lx.1 hx).1
 have main:∀v:Int,gJ I gs (·∈l) v->0<=v->gF I gs l (2+I+i) v.toNat->gJ I gs (·∈l.filter λx=>decide (gF I gs l (2+I+i) x.toNat)) v:=by
  intro v h
  induction h with
  | mem h1=>exact λ_ hr=>.mem (lx.2 ⟨h1,by simpa using hr⟩)
  | const h1 h2=>exact λ_ _=>.const h1 h2
  | @gate j g' h1 h2 h3 ih =>
   intro _ hr
   by_cases hm:2+(I:Int)+j∈l
   ·exact .mem (lx.2 ⟨hm,by simpa using hr⟩)
   ·refine .gate h1 h2 λo ho=>ih o ho (G.ops h1 o ho).1 ?_
    refine .step hr (qL.2 ⟨?_,g',pJ.2 ⟨j,by omega,h1⟩,h2,ho⟩)
    rw [show (((2+(I:Int)+j).toNat:Nat):Int)=2+(I:Int)+j by omega]
    exact hm
 have EX:=a5 _ (na (Dy _ _) a2) (λo ho=>main o (a4 o ho) (G.ops hg o ho).1 (.step (.base rfl) (qL.2 ⟨λhm=>by have:=a3 _ hm;omega,g,pJ.2 ⟨i,rfl,hg⟩,h7,ho⟩))) (pN.2 hS)
 intro x hx
 have:=(lx.1 (pN.1 EX x hx)).2
 simpa using this
theorem UH {I:Nat} {gs:List Gate} {s:dW} (h:lX I gs s) {r:Int} (h1:2+(I:Int)<=r) (h2:r < 2+I+gs.length) :
  ∃(i:Nat) (g:Gate),r=2+(I:Int)+i/\gs[i]?=some g/\s.leaves[2+I+i]?=some (kU s r):=by
 have hi:r.toNat - 2 - I < gs.length:=by omega
 refine ⟨r.toNat - 2 - I,_,by omega,eG hi,?_⟩
 unfold kU
 rw [show 2+I+(r.toNat - 2 - I)=r.toNat by omega,List.getD_eq_getElem?_getD,eG (by rw [h.oN];omega)]
 rfl
theorem adu {I:Nat} {gs:List Gate} (G:cC I gs) {s:dW} (h:lX I gs s) {sig:Int->Option Int} {r:Int} (h1:2+(I:Int)<=r) (h2:r < 2+I+gs.length) (aiu:∀x∈kU s r,∃y,sig x=some y) :
  (cellOf I gs r (kU s r) sig).2=0:=by
 obtain ⟨i,g,rfl,hg,hl⟩:=UH h h1 h2
 have hr:(2+(I:Int)+i).toNat=2+I+i:=by omega
 have Aw:gI I gs (2+(I:Int)+i).toNat=some g:=by rw [hr];exact pJ.2 ⟨i,rfl,hg⟩
 have k:=h.lf i _ g hl hg
 unfold cellOf
 rw [Hb aiu]
 simp only [if_true,Aw]
 split
 ·rename_i h7
  rw [if_pos h7] at k
  simp only
  rw [if_pos k]
 ·rename_i h7
  rw [if_neg h7] at k
  obtain ⟨a1,a2,a3,a4,a5,_⟩:=k
  split
  ·rename_i e
   have:=a3 (2+(I:Int)+i) (by rw [e];simp)
   omega
  ·have hc:=acq G hg h7 a1 a2 a3 a4 a5
   unfold uN
   cases hq:iD I gs (2+(I:Int)+i) (kU s (2+(I:Int)+i)) with
   | none=>rw [hq] at hc;cases hc
   | some l=>rfl
theorem aeD {I:Nat} {gs:List Gate} (G:cC I gs) {s:dW} (h:lX I gs s) {r:Int} (h1:2+(I:Int)<=r) (h2:r < 2+I+gs.length):∀x∈kU s r,0<=x/\x < r:=by
 obtain ⟨i,g,rfl,hg,hl⟩:=UH h h1 h2
 have k:=h.lf i _ g hl hg
 intro x hx
 split at k
 ·rw [k] at hx;have:=G.ops hg x hx;omega
 ·have:=k.2.2.1 x hx;omega
theorem afB {I:Nat} {gs:List Gate} (G:cC I gs) {s:dW} (h:lX I gs s) {bA:List Int} (hd:∀d∈bA,0<=d/\d < 2+I+gs.length) :
  BM I gs bA (lW I gs s bA).1 (lW I gs s bA).2=true:=by
 obtain ⟨r1,r2,r3,r4,r5⟩:=Ry G h hd
 unfold BM lW
 simp only [b9,decide_eq_true_eq,jQ]
 refine ⟨⟨⟨⟨trivial,trivial⟩,trivial⟩,trivial⟩,R4 r1 λr hr=>by have:=r2 r hr;omega,R6 λr hr=>?_,R5 λd mL=>?_⟩
 ·have hb:=r2 r hr
  refine adu G h hb.1 hb.2 λx hx=>L7 ?_
  have:=aeD G h hb.1 hb.2 x hx
  by_cases om:x < 2+(I:Int)
  ·exact .inl ⟨this.1,om⟩
  ·exact .inr (r4 r hr x hx (by omega))
 ·refine L7 ?_
  have:=hd d mL
  by_cases om:d < 2+(I:Int)
  ·exact .inl ⟨this.1,om⟩
  ·exact .inr (r3 d mL (by omega))

theorem HH {I:Nat} {R:List Int} (hR:gd R) (gS:∀r∈R,2+(I:Int)<=r) {v s:Int}:fU I R v=some s↔(0<=v/\v < 2+I/\s=v)\/∃i:Nat,R[i]?=some v/\s=2+I+i:=by
 unfold fU
 split
 ·rename_i h
  constructor
  ·intro e;simp at e;exact .inl ⟨h.1,h.2,e.symm⟩
  ·rintro (⟨_,_,e⟩|⟨i,hi,e⟩)
   ·rw [e]
   ·have:=gS v (cM hi);omega
 ·rename_i h
  constructor
  ·intro e
   rw [Bs] at e
   obtain ⟨i,hi,rfl⟩:=e
   rw [DU] at hi
   obtain ⟨hl,hi,_⟩:=hi
   simp at hi
   exact .inr ⟨i,by rw [eG hl,hi],rfl⟩
  ·rintro (⟨h1,h2,_⟩|⟨i,hi,rfl⟩)
   ·exact absurd ⟨h1,h2⟩ h
   ·rw [Bs]
    refine ⟨i,?_,rfl⟩
    obtain ⟨hl,hi⟩:=bf.1 hi
    rw [DU]
    refine ⟨hl,by simpa using hi,λj hj=>?_⟩
    have:=(qC.1 hR) j i (by omega) hl hj
    simp;omega
theorem Rz {N:Int}:∀{last:Int} {R:List Int},my N last R=true->gd R/\∀r∈R,last < r/\r < N
 | _,[],_=>⟨.nil,by simp⟩
 | last,r :: rs,h=>by
  simp only [my,b9,decide_eq_true_eq] at h
  obtain ⟨h1,h2⟩:=h
  obtain ⟨h3,h4⟩:=Rz h2
  refine ⟨eX.2 ⟨λx hx=>(h4 x hx).1,h3⟩,λx hx=>?_⟩
  rcases cv.1 hx with rfl|hx
  ·exact h1
  ·have:=h4 x hx;omega
theorem R7 {sig:Int->Option Int}:∀{D E:List Int},E.length=D.length->nQ sig D E=true->E=D.map λv=>(sig v).getD 0
 | [],[],_,_=>rfl
 | [],_ :: _,h,_=>by simp at h
 | _ :: _,[],h,_=>by simp at h
 | d :: D,e :: E,h,k=>by
  simp only [nQ,b9,decide_eq_true_eq] at k
  rw [ig,k.1,<-R7 (by simpa using h) k.2]
  rfl
theorem Rc {sig:Int->Option Int}:∀{D E:List Int},E.length=D.length->nQ sig D E=true->∀d∈D,∃s,sig d=some s
 | [],_,_,_=>by simp
 | _ :: _,[],h,_=>by simp at h
 | d :: D,e :: E,h,k=>by
  simp only [nQ,b9,decide_eq_true_eq] at k
  intro x hx
  rcases cv.1 hx with rfl|hx
  ·exact ⟨e,k.1⟩
  ·exact Rc (by simpa using h) k.2 x hx
theorem abR {x y:Cell}:BL x y=true↔x=y:=by
 unfold BL
 cases x;cases y
 simp only [b9,decide_eq_true_eq,Cell.mk.injEq]
 constructor
 ·rintro ⟨⟨a,b⟩,c⟩;exact ⟨c,a,b⟩
 ·rintro ⟨a,b,c⟩;exact ⟨⟨b,c⟩,a⟩
theorem RA {I:Nat} {gs:List Gate} {sig:Int->Option Int}:∀{C:List Cell} {R:List Int} {L:List (List Int)},mw I gs sig C R L=true->∀(j:Nat) (x:Cell) (r:Int) (l:List Int),C[j]?=some x->R[j]?=some r->L[j]?=some l ->
  (cellOf I gs r l sig).2=0/\x=(cellOf I gs r l sig).1
 | x :: C,r :: R,l :: L,h,j,x',r',l',hx,hr,hl=>by
  simp only [mw,b9,decide_eq_true_eq] at h
  cases j with
  | zero =>
   simp at hx hr hl
   subst hx;subst hr;subst hl
   exact ⟨h.1.1,abR.1 h.1.2⟩
  | succ j=>exact RA h.2 j x' r' l' (by simpa using hx) (by simpa using hr) (by simpa using hl)
 | [],_,_,_,j,x',r',l',hx,_,_=>by simp at hx
 | _ :: _,[],_,_,j,x',r',l',_,hr,_=>by simp at hr
 | _ :: _,_ :: _,[],_,j,x',r',l',_,_,hl=>by simp at hl
theorem abS {I:Nat} {gs:List Gate} {r:Int} {l:List Int} {sig:Int->Option Int} (h:(cellOf I gs r l sig).2=0):(mB sig l).2=true/\(cellOf I gs r l sig).1.ins=l.map λx=>(sig x).getD 0:=by
 unfold cellOf at h ⊢
 split
 ·rename_i ha
  refine ⟨ha,?_⟩
  have:=Hb (KU ha)
  cases gI I gs r.toNat with
  | none=>simp only;rw [this]
  | some g =>
   simp only
   split
   ·rw [this]
   ·split
    ·rw [this]
    ·rw [this]
 ·rename_i ha
  rw [if_neg ha] at h
  simp at h
structure BN (I:Nat) (gs:List Gate) (bA:List Int) (m:ea) (c:kA):Prop where
 n:m.n=I
 rl:c.root.length=m.cells.length
 ll:c.leaves.length=m.cells.length
 dl:m.bA.length=bA.length
 inc:gd c.root
 lim:∀r∈c.root,2+(I:Int)<=r/\r < 2+I+gs.length
 cell:∀(j:Nat) (x:Cell) (r:Int) (l:List Int),m.cells[j]?=some x->c.root[j]?=some r->c.leaves[j]?=some l->(cellOf I gs r l (fU I c.root)).2=0/\x=(cellOf I gs r l (fU I c.root)).1
 PA:m.bA=bA.map λv=>(fU I c.root v).getD 0
 Xt:∀d∈bA,∃s,fU I c.root d=some s
theorem acr {I:Nat} {gs:List Gate} {bA:List Int} {m:ea} {c:kA} (h:BM I gs bA m c=true):BN I gs bA m c:=by
 unfold BM at h
 simp only [b9,decide_eq_true_eq] at h
 obtain ⟨⟨⟨⟨h1,h2⟩,h3⟩,h4⟩,h5,h6,h7⟩:=h
 obtain ⟨h8,h9⟩:=Rz h5
 exact ⟨h1,h2,h3,h4,h8,λr hr=>by have:=h9 r hr;omega,RA h6,R7 h4 h7,Rc h4 h7⟩
end Go.Proofs.Pk
