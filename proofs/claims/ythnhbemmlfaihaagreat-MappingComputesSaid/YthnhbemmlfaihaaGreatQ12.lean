import Derived.Test.YthnhbemmlfaihaaGreatQ11
import Derived.WalkKit
set_option linter.unusedVariables false
set_option linter.unusedSimpArgs false
set_option maxRecDepth 10000
set_option maxHeartbeats 64000000
namespace Go.Proofs.Pk
open Go Go.Vc
structure eS where
 kind:Int
 i:Int
 bit:Int
 deriving DecidableEq
structure Gate where
 op:Int
 a:Int
 b:Int
 c:Int
 n:Int
 deriving DecidableEq
structure Cell where
 ins:List Int
 table:Int
 ep:Int
structure Block where
 ins:List Int
 table:Int
 ep:Int
 dD:Int
 key:Int
structure Net where
 ins:List eS
 aT:List Gate
 outs:List eS
 bj:List Int
structure ej where
 n:Int
 cells:List Cell
 bj:List Int
structure eY where
 ins:List eS
 blocks:List Block
 outs:List eS
 bj:List Int
inductive Expr where
 | mk (op k w:Int) (args:List Expr)
def Expr.op:Expr->Int|.mk o _ _ _=>o
def Expr.k:Expr->Int|.mk _ k _ _=>k
def Expr.w:Expr->Int|.mk _ _ w _=>w
def Expr.args:Expr->List Expr|.mk _ _ _ l=>l
structure UF where
 kind:Int
 src:ByteArray
 n:Int
structure V8 where
 name:ByteArray
 w:Int
 init:Int
 next:Expr
 UH:UF
structure Mem where
 name:ByteArray
 w:Int
 words:Int
 en:Expr
 ad:Expr
 da:Expr
 UH:UF
structure Take where
 chan:Int
 w:Int
 cond:Expr
structure V9 where
 chan:Int
 w:Int
 cond:Expr
 data:Expr
structure Head where
 has:Bool
 v:Int
structure ace where
 zt:List Int
 BB:List (List Int)
structure Source where
 kind:Int
 n:Int
 deriving DecidableEq
structure Part where
 ins:List Source
 table:Int
 ep:Int
 dD:Int
abbrev dM (l:List Int):Prop:=l.Pairwise (· < ·)
theorem dM.nodup {l:List Int} (h:dM l):l.Nodup:=h.imp λgl e=>by omega
theorem dM.ext:∀{l k:List Int},dM l->dM k->(∀x,x∈l↔x∈k)->l=k
 | [],[],_,_,_=>rfl
 | [],y :: k,_,_,h=>absurd ((h y).2 (by simp)) (by simp)
 | x :: l,[],_,_,h=>absurd ((h x).1 (by simp)) (by simp)
 | x :: l,y :: k,hl,hk,h=>by
  have iL:=fH.1 hl
  have gQ:=fH.1 hk
  have e:x=y:=by
   rcases cV.1 ((h x).1 (by simp)) with e|e
   ·exact e
   ·rcases cV.1 ((h y).2 (by simp)) with e'|e'
    ·exact e'.symm
    ·have:=gQ.1 x e;have:=iL.1 y e';omega
  subst e
  rw [dM.ext iL.2 gQ.2 λz=>?_]
  have hz:=h z
  simp only [cV] at hz
  constructor
  ·intro hm
   rcases hz.1 (.inr hm) with e|e
   ·subst e;exact absurd (iL.1 z hm) (by omega)
   ·exact e
  ·intro hm
   rcases hz.2 (.inr hm) with e|e
   ·subst e;exact absurd (gQ.1 z hm) (by omega)
   ·exact e
def eR:List Int->List Int
 | []=>[]
 | [x]=>[x]
 | x :: y :: r=>if x=y then eR (y :: r) else x :: eR (y :: r)
theorem MZ:∀{l:List Int} {x:Int},x∈eR l↔x∈l
 | [],x=>by simp [eR]
 | [y],x=>by simp [eR]
 | y :: z :: r,x=>by
  unfold eR
  split
  ·rename_i e;subst e;rw [MZ];simp
  ·rw [cV,MZ];simp
theorem RW:∀{l:List Int},l.Pairwise (·<=·)->dM (eR l)
 | [],_=>.nil
 | [y],_=>by simp [eR]
 | y :: z :: r,h=>by
  have h':=fH.1 h
  unfold eR
  split
  ·exact RW h'.2
  ·rename_i bW
   refine fH.2 ⟨λx hx=>?_,RW h'.2⟩
   rw [MZ] at hx
   have h1:=h'.1 z (by simp)
   rcases cV.1 hx with rfl|hx
   ·omega
   ·have:=(fH.1 h'.2).1 x hx;omega
def sX (x:Int):List Int->List Int
 | []=>[x]
 | y :: r=>if x < y then x :: y :: r else if x=y then y :: r else y :: sX x r
theorem Sy {x z:Int}:∀{l:List Int},z∈sX x l↔z=x\/z∈l
 | []=>by simp [sX]
 | y :: r=>by
  unfold sX
  split
  ·simp
  ·split
   ·rename_i e;subst e;simp
   ·simp only [cV,Sy (l:=r)]
    constructor
    ·rintro (h|h|h)<;>simp [h]
    ·rintro (h|h|h)<;>simp [h]
theorem aaq {x:Int}:∀{l:List Int},dM l->dM (sX x l)
 | [],_=>by simp [sX]
 | y :: r,h=>by
  have h':=fH.1 h
  unfold sX
  split
  ·refine fH.2 ⟨λz hz=>?_,h⟩
   rcases cV.1 hz with rfl|hz
   ·assumption
   ·have:=h'.1 z hz;omega
  ·split
   ·exact h
   ·refine fH.2 ⟨λz hz=>?_,aaq h'.2⟩
    rcases Sy.1 hz with rfl|hz
    ·omega
    ·exact h'.1 z hz
def iS (a b:List Int):List Int:=(a++b).foldr sX []
theorem XE {z:Int}:∀{l:List Int},z∈l.foldr sX []↔z∈l
 | []=>by simp
 | y :: r=>by rw [List.foldr_cons,Sy,XE,cV]
theorem XF:∀l:List Int,dM (l.foldr sX [])
 | []=>.nil
 | y :: r=>aaq (XF r)
theorem yN {a b:List Int} {z:Int}:z∈iS a b↔z∈a\/z∈b:=by unfold iS;rw [XE,dR]
theorem CR (a b:List Int):dM (iS a b):=XF _
theorem akl {a b l:List Int} (h:l.Pairwise (·<=·)) (hp:l.Perm (a++b)):eR l=iS a b :=
 (RW h).ext (CR a b) λx=>by rw [MZ,yN,hp.mem_iff,dR]
def dT (a b:List Int):Bool:=a.all λx=>b.contains x
theorem qh {a b:List Int}:dT a b=true↔∀x∈a,x∈b:=by simp [dT]
def me (l:List (List Int)) (x:List Int):List (List Int):=if l.any (λy=>dT y x) then l else l.filter (λy=>!dT x y)++[x]
abbrev zu (L:List (List Int)):Prop:=L.Pairwise λa b=>dT a b=false/\dT b a=false
theorem Mz {a b c:List Int} (h:dT a b=true) (k:dT b c=true):dT a c=true:=by rw [qh] at *;exact λx hx=>k x (h x hx)
theorem Zm (a:List Int):dT a a=true:=qh.2 λ_ h=>h
structure vn (F R:List (List Int)):Prop where
 mem:∀r∈R,r∈F
 all:∀u∈F,∃r∈R,dT r u=true
 um:zu R
theorem vn.nil:vn [] []:=⟨by simp,by simp,.nil⟩
theorem vn.add {F R:List (List Int)} (h:vn F R) (u:List Int):vn (F++[u]) (me R u):=by
 unfold me
 split
 ·rename_i hs
  obtain ⟨y,hy,hs⟩:=IW.1 hs
  refine ⟨λr hr=>wj _ (h.mem r hr),λv hv=>?_,h.um⟩
  rcases dR.1 hv with hv|hv
  ·exact h.all v hv
  ·simp at hv;subst hv;exact ⟨y,hy,hs⟩
 ·rename_i hs
  have hs:∀y∈R,dT y u=false:=λy hy=>by
   have:=(List.any_eq_false.1 (Bool.not_eq_true _ ▸ hs)) y hy
   simpa using this
  refine ⟨λr hr=>?_,λv hv=>?_,?_⟩
  ·rcases dR.1 hr with hr|hr
   ·exact wj _ (h.mem r (mW.1 hr).1)
   ·exact AO _ hr
  ·rcases dR.1 hv with hv|hv
   ·obtain ⟨r,hr,BM⟩:=h.all v hv
    cases hq:dT u r with
    | false=>exact ⟨r,wj _ (mW.2 ⟨hr,by simp [hq]⟩),BM⟩
    | true=>exact ⟨u,by simp,Mz hq BM⟩
   ·simp at hv;subst hv;exact ⟨v,by simp,Zm v⟩
  ·refine j8.2 ⟨h.um.filter _,by simp,λa ha b hb=>?_⟩
   simp at hb;subst hb
   obtain ⟨HE,uG⟩:=mW.1 ha
   exact ⟨hs a HE,by simpa using uG⟩
theorem vn.fold {F R:List (List Int)} (h:vn F R):∀L:List (List Int),vn (F++L.filter λu=>decide (u.length<=4)) (L.foldl (λnext u=>if u.length<=4 then me next u else next) R)
 | []=>by simpa using h
 | u :: L=>by
  rw [kW]
  by_cases hu:u.length<=4
  ·rw [if_pos hu,MF (by simpa using hu)]
   have:=vn.fold (h.add u) L
   rwa [List.append_assoc] at this
  ·rw [if_neg hu,Rh (by simpa using hu)]
   exact vn.fold h L
def jz (op:Int):Nat:=if op=1 then 1 else if op=2\/op=3\/op=4 then 2 else 3
def cC (g:Gate):List Int:=[g.a,g.b,g.c].take (jz g.op)
theorem alo {g:Gate} {o:Int} (h:o∈cC g):o=g.a\/o=g.b\/o=g.c:=by simpa using tU h
theorem xF (g:Gate):1<=(cC g).length/\(cC g).length<=3:=by
 unfold cC jz
 split
 ·simp
 ·split<;>simp
structure KZ (lim:Int) (g:Gate):Prop where
 op:1<=g.op/\g.op<=7
 a:0<=g.a/\g.a < lim
 b:0<=g.b/\g.b < lim
 c:0<=g.c/\g.c < lim
 n:0<=g.n/\g.n < 64
structure ca (I:Nat) (gs:List Gate):Prop where
 k8:2+I+gs.length<=600
 aT:∀(i:Nat) (g:Gate),gs[i]?=some g->KZ (2+I+i) g
theorem ca.ops {I:Nat} {gs:List Gate} (h:ca I gs) {i:Nat} {g:Gate} (hg:gs[i]?=some g):∀o∈cC g,0<=o/\o < 2+I+i:=λo ho=>by
 have k:=h.aT i g hg
 rcases alo ho with rfl|rfl|rfl
 ·exact k.a
 ·exact k.b
 ·exact k.c
inductive iT (I:Nat) (gs:List Gate) (S:Int->Prop):Int->Prop
 | mem {v:Int}:S v->iT I gs S v
 | const {v:Int}:0<=v->v < 2->iT I gs S v
 | gate {i:Nat} {g:Gate}:gs[i]?=some g->g.op≠7->(∀o∈cC g,iT I gs S o)->iT I gs S (2+I+i)
theorem iT.mono {I:Nat} {gs:List Gate} {S T:Int->Prop} (h:∀x,S x->T x) {v:Int} (k:iT I gs S v):iT I gs T v:=by
 induction k with
 | mem h1=>exact .mem (h _ h1)
 | const h1 h2=>exact .const h1 h2
 | gate h1 h2 _ ih=>exact .gate h1 h2 ih
theorem iT.inv {I:Nat} {gs:List Gate} {S:Int->Prop} {i:Nat} {g:Gate} (hg:gs[i]?=some g) (k:iT I gs S (2+I+i)) (hn:¬S (2+I+i)):g.op≠7/\∀o∈cC g,iT I gs S o:=by
 generalize hv:(2+(I:Int)+i)=v at k
 cases k with
 | mem h1=>rw [hv] at hn;exact absurd h1 hn
 | const h1 h2=>omega
 | gate h1 h2 h3 =>
  rename_i j g'
  have:j=i:=by omega
  subst this
  rw [hg] at h1;cases h1
  exact ⟨h2,h3⟩
theorem iT.input {I:Nat} {gs:List Gate} {S:Int->Prop} {v:Int} (h:2<=v) (h':v < 2+I) (k:iT I gs S v):S v:=by
 cases k with
 | mem h1=>exact h1
 | const h1 h2=>omega
 | gate h1 h2 h3=>omega
theorem iT.more {I:Nat} {gs hs:List Gate} {S:Int->Prop} {v:Int} (k:iT I gs S v):iT I (gs++hs) S v:=by
 induction k with
 | mem h1=>exact .mem h1
 | const h1 h2=>exact .const h1 h2
 | gate h1 h2 _ ih=>exact .gate (by rw [j7 (bt.1 h1).1];exact h1) h2 ih
structure mF (Q:(Int->Prop)->Prop) (m:Int) (C:List (List Int)):Prop where
 inc:∀c∈C,dM c
 len:∀c∈C,c.length<=4
 lim:∀c∈C,∀x∈c,2<=x/\x < m
 cut:∀c∈C,Q (·∈c)
 all:∀S:List Int,S.length<=4->Q (·∈S)->∃c∈C,dT c S=true
 um:zu C
theorem dM.anR {c S:List Int} (h:dM c) (hs:dT c S=true):c.length<=S.length:=C3 h.nodup (qh.1 hs)
def sY (all cs:List (List Int)):List (List Int):=(all.flatMap λa=>cs.map λb=>iS a b).foldl (λnext u=>if u.length<=4 then me next u else next) []
theorem mF.step {Q Q':(Int->Prop)->Prop} {m:Int} {A C:List (List Int)} (hA:mF Q m A) (hC:mF Q' m C) (mono:∀S T:Int->Prop,(∀x,S x->T x)->Q S->Q T) (apZ:∀S T:Int->Prop,(∀x,S x->T x)->Q' S->Q' T) :
  mF (λS=>Q S/\Q' S) m (sY A C):=by
 have M:=vn.fold vn.nil (A.flatMap λa=>C.map λb=>iS a b)
 have sh:∀r∈sY A C,∃a∈A,∃b∈C,r=iS a b/\r.length<=4:=λr hr=>by
  have h:=M.mem r hr
  rw [tY,mW,IU] at h
  obtain ⟨⟨a,ha,h⟩,hl⟩:=h
  obtain ⟨b,hb,rfl⟩:=jS.1 h
  exact ⟨a,ha,b,hb,rfl,by simpa using hl⟩
 refine ⟨λr hr=>?_,λr hr=>?_,λr hr x hx=>?_,λr hr=>?_,λS hS hq=>?_,M.um⟩
 ·obtain ⟨a,ha,b,hb,rfl,_⟩:=sh r hr
  exact CR a b
 ·obtain ⟨a,ha,b,hb,_,hl⟩:=sh r hr
  exact hl
 ·obtain ⟨a,ha,b,hb,rfl,_⟩:=sh r hr
  rcases yN.1 hx with hx|hx
  ·exact hA.lim a ha x hx
  ·exact hC.lim b hb x hx
 ·obtain ⟨a,ha,b,hb,rfl,_⟩:=sh r hr
  exact ⟨mono _ _ (λx hx=>yN.2 (.inl hx)) (hA.cut a ha),apZ _ _ (λx hx=>yN.2 (.inr hx)) (hC.cut b hb)⟩
 ·obtain ⟨a,ha,has⟩:=hA.all S hS hq.1
  obtain ⟨b,hb,VA⟩:=hC.all S hS hq.2
  have hu:dT (iS a b) S=true:=qh.2 λx hx=>by
   rcases yN.1 hx with hx|hx
   ·exact qh.1 has x hx
   ·exact qh.1 VA x hx
  have hl:=(CR a b).anR hu
  obtain ⟨r,hr,hrs⟩:=M.all (iS a b) (by
   rw [tY,mW,IU]
   exact ⟨⟨a,ha,jS.2 ⟨b,hb,rfl⟩⟩,by simpa using oR hl hS⟩)
  exact ⟨r,hr,Mz hrs hu⟩
def gh:List Int->List Int->Int
 | [],[]=>0
 | [],_ :: _=>-1
 | _ :: _,[]=>1
 | x :: a,y :: b=>if x < y then -1 else if y < x then 1 else gh a b
def jb (a b:List Int):Int:=if a.length < b.length then -1 else if b.length < a.length then 1 else gh a b
theorem abq:∀{a b:List Int},gh a b=0->a=b
 | [],[],_=>rfl
 | [],_ :: _,h=>by simp [gh] at h
 | _ :: _,[],h=>by simp [gh] at h
 | x :: a,y :: b,h=>by
  unfold gh at h
  split at h
  ·simp at h
  ·split at h
   ·simp at h
   ·rw [abq h,show x=y by omega]
theorem Zn:∀a:List Int,gh a a=0
 | []=>rfl
 | x :: a=>by unfold gh;rw [if_neg (by omega),if_neg (by omega)];exact Zn a
theorem aar:∀a b:List Int,gh b a=- gh a b
 | [],[]=>rfl
 | [],_ :: _=>rfl
 | _ :: _,[]=>rfl
 | x :: a,y :: b=>by
  unfold gh
  by_cases h1:x < y
  ·rw [if_neg (by omega),if_pos h1,if_pos h1];rfl
  ·by_cases h2:y < x
   ·rw [if_pos h2,if_neg h1,if_pos h2]
   ·rw [if_neg h2,if_neg h1,if_neg h1,if_neg h2];exact aar a b
theorem YD:∀{a b c:List Int},gh a b < 0->gh b c < 0->gh a c < 0
 | [],[],_,h,_=>by simp [gh] at h
 | [],_ :: _,[],_,h=>by simp [gh] at h
 | [],_ :: _,_ :: _,_,_=>by simp [gh]
 | _ :: _,[],_,h,_=>by simp [gh] at h
 | _ :: _,_ :: _,[],_,h=>by simp [gh] at h
 | x :: a,y :: b,z :: c,h,k=>by
  unfold gh at h k ⊢
  split at h
  ·split at k
   ·rw [if_pos (by omega)];decide
   ·split at k
    ·simp at k
    ·rw [if_pos (by omega)];decide
  ·split at h
   ·simp at h
   ·split at k
    ·rw [if_pos (by omega)];decide
    ·split at k
     ·simp at k
     ·rw [if_neg (by omega),if_neg (by omega)];exact YD h k
theorem SX {a b:List Int} (h:jb a b=0):a=b:=by
 unfold jb at h
 split at h
 ·simp at h
 ·split at h
  ·simp at h
  ·exact abq h
theorem C9 (a b:List Int):jb b a=- jb a b:=by
 unfold jb
 by_cases h1:a.length < b.length
 ·rw [if_neg (by omega),if_pos h1,if_pos h1];rfl
 ·by_cases h2:b.length < a.length
  ·rw [if_pos h2,if_neg h1,if_pos h2]
  ·rw [if_neg h2,if_neg h1,if_neg h1,if_neg h2];exact aar a b
theorem YE {a b c:List Int} (h:jb a b < 0) (k:jb b c < 0):jb a c < 0:=by
 unfold jb at *
 split at h
 ·split at k
  ·rw [if_pos (by omega)];decide
  ·split at k
   ·simp at k
   ·rw [if_pos (by omega)];decide
 ·split at h
  ·simp at h
  ·split at k
   ·rw [if_pos (by omega)];decide
   ·split at k
    ·simp at k
    ·rw [if_neg (by omega),if_neg (by omega)];exact YD h k
theorem QH {a b c:List Int} (h:jb a b<=0) (k:jb b c<=0):jb a c<=0:=by
 rcases Int.lt_or_eq_of_le h with h|h
 ·rcases Int.lt_or_eq_of_le k with k|k
  ·exact Int.le_of_lt (YE h k)
  ·rw [<-SX k];omega
 ·rw [SX h];exact k
def Eg (x:List Int):List (List Int)->List (List Int)
 | []=>[x]
 | y :: r=>if jb x y<=0 then x :: y :: r else y :: Eg x r
def pG (L:List (List Int)):List (List Int):=L.foldr Eg []
theorem RX (x:List Int):∀L:List (List Int),(Eg x L).Perm (x :: L)
 | []=>.refl _
 | y :: r=>by
  unfold Eg
  split
  ·exact .refl _
  ·exact ((RX x r).cons y).trans (.swap x y r)
theorem Av:∀L:List (List Int),(pG L).Perm L
 | []=>.refl _
 | y :: r=>(RX y (pG r)).trans ((Av r).cons y)
abbrev HF (L:List (List Int)):Prop:=L.Pairwise λa b=>jb a b<=0
theorem aas (x:List Int):∀{L:List (List Int)},HF L->HF (Eg x L)
 | [],_=>by simp [Eg]
 | y :: r,h=>by
  have h':=fH.1 h
  unfold Eg
  split
  ·rename_i si
   refine fH.2 ⟨λz hz=>?_,h⟩
   rcases cV.1 hz with rfl|hz
   ·exact si
   ·exact QH si (h'.1 z hz)
  ·rename_i si
   refine fH.2 ⟨λz hz=>?_,aas x h'.2⟩
   rcases cV.1 ((RX x r).mem_iff.1 hz) with rfl|hz
   ·rw [C9];omega
   ·exact h'.1 z hz
theorem RY:∀L:List (List Int),HF (pG L)
 | []=>.nil
 | y :: r=>aas y (RY r)
theorem aat {L R:List (List Int)} (hp:R.Perm L) (hs:HF R):R=pG L :=
 List.Perm.eq_of_pairwise (λa b _ _ h k=>SX (by rw [C9] at k;omega)) hs (RY L) (hp.trans (Av L).symm)
theorem akm {L:List (List Int)} {x y:List Int} {r:List (List Int)} (h:pG L=x :: r) (hy:y∈L):x.length<=y.length:=by
 have hs:=RY L
 have hm:=(Av L).mem_iff.2 hy
 rw [h] at hs hm
 rcases cV.1 hm with rfl|hm
 ·exact fq _
 ·have:=(fH.1 hs).1 y hm
  unfold jb at this
  split at this
  ·omega
  ·split at this
   ·simp at this
   ·omega
def cU (L l:List Int):Int:=l.foldl (λm v=>max m (L.getD v.toNat 0)) 0
theorem Q1 (L:List Int):∀(l:List Int) (m:Int),m<=l.foldl (λm v=>max m (L.getD v.toNat 0)) m/\∀v∈l,L.getD v.toNat 0<=l.foldl (λm v=>max m (L.getD v.toNat 0)) m
 | [],m=>⟨mr _,by simp⟩
 | x :: r,m=>by
  have h:=Q1 L r (max m (L.getD x.toNat 0))
  rw [kW]
  refine ⟨by omega,λv hv=>?_⟩
  rcases cV.1 hv with rfl|hv
  ·omega
  ·exact h.2 v hv
theorem M1 {L l:List Int} {v:Int} (h:v∈l):L.getD v.toNat 0<=cU L l:=(Q1 L l 0).2 v h
theorem AV (L l:List Int):0<=cU L l:=(Q1 L l 0).1
theorem AI {L:List Int}:∀{l:List Int} {m M:Int},m<=M->(∀v∈l,L.getD v.toNat 0<=M)->l.foldl (λm v=>max m (L.getD v.toNat 0)) m<=M
 | [],m,M,h,_=>h
 | x :: r,m,M,h,k=>by
  rw [kW]
  exact AI (by have:=k x (by simp);omega) λv hv=>k v (by simp [hv])
theorem ajN {L a b:List Int} (h:dT a b=true):cU L a<=cU L b:=AI (AV L b) λv hv=>M1 (qh.1 h v hv)
def kh (f:List Int->Int):List Int->List (List Int)->List Int
 | m,[]=>m
 | m,x :: r=>if f x - f m < 0 then kh f x r else kh f m r
theorem I7 {f:List Int->Int}:∀{r:List (List Int)} {m:List Int},kh f m r∈m :: r
 | [],m=>by simp [kh]
 | x :: r,m=>by
  unfold kh
  split
  ·exact rH _ I7
  ·rcases cV.1 (I7 (f:=f) (r:=r) (m:=m)) with h|h<;>simp [h]
theorem aau {f:List Int->Int}:∀{r:List (List Int)} {m:List Int},∀x∈m :: r,f (kh f m r)<=f x
 | [],m=>by simp [kh]
 | y :: r,m=>by
  intro x hx
  unfold kh
  have h1:=λm=>aau (f:=f) (r:=r) (m:=m)
  split
  ·have h2:=h1 y y (by simp)
   rcases cV.1 hx with rfl|hx
   ·omega
   ·exact h1 y x hx
  ·have h2:=h1 m m (by simp)
   rcases cV.1 hx with rfl|hx
   ·exact h2
   ·rcases cV.1 hx with rfl|hx
    ·omega
    ·exact h1 m x (rH _ hx)
structure eT where
 labels:List Int
 gG:List (List (List Int))
 leaves:List (List Int)
def qj (C:List (List (List Int))) (ops:List Int):List (List Int):=pG (ops.foldl (λall o=>sY all (C.getD o.toNat [])) [[]])
def JA (v:Int):List (List Int)->List (List Int)
 | []=>[[v]]
 | x :: r=>if x.length=0 then x :: r else [v] :: x :: r
def lQ (I:Nat):eT:=⟨List.replicate (2+I) 0,[[[]],[[]]]++(List.range I).map (λk:Nat=>[[2+(k:Int)]]),List.replicate (2+I) []⟩
def xL (s:eT) (g:Gate):Option eT :=
 let v:Int:=s.labels.length
 if g.op=7 then some ⟨s.labels++[1+cU s.labels (cC g)],s.gG++[[[v]]],s.leaves++[cC g]⟩
 else match qj s.gG (cC g) with
  | []=>none
  | x :: r=>if (JA v (x :: r)).length > 400 then none
   else some ⟨s.labels++[1+cU s.labels (kh (cU s.labels) x r)],s.gG++[JA v (x :: r)],s.leaves++[kh (cU s.labels) x r]⟩
def kF (I:Nat) (gs:List Gate):Option eT:=gs.foldl (λs g=>s.bind λs=>xL s g) (some (lQ I))
theorem M9 (I:Nat) (gs:List Gate) (g:Gate):kF I (gs++[g])=(kF I gs).bind λs=>xL s g:=by simp [kF,List.foldl_append]
abbrev nh (I:Nat) (gs:List Gate) (l:List Int) (S:Int->Prop):Prop:=∀o∈l,iT I gs S o
theorem mF.perm {Q:(Int->Prop)->Prop} {m:Int} {C D:List (List Int)} (h:mF Q m C) (hp:D.Perm C):mF Q m D :=
 ⟨λc hc=>h.inc c (hp.mem_iff.1 hc),λc hc=>h.len c (hp.mem_iff.1 hc),λc hc=>h.lim c (hp.mem_iff.1 hc),λc hc=>h.cut c (hp.mem_iff.1 hc),
  λS hS hq=>by obtain ⟨c,hc,hs⟩:=h.all S hS hq;exact ⟨c,hp.mem_iff.2 hc,hs⟩,hp.symm.pairwise h.um λh=>⟨h.2,h.1⟩⟩
theorem mF.up {Q Q':(Int->Prop)->Prop} {m m':Int} {C:List (List Int)} (h:mF Q m C) (hm:m<=m') (hq:∀S,Q S↔Q' S):mF Q' m' C :=
 ⟨h.inc,h.len,λc hc x hx=>by have:=h.lim c hc x hx;omega,λc hc=>(hq _).1 (h.cut c hc),λS hS k=>h.all S hS ((hq _).2 k),h.um⟩
structure oy (I:Nat) (gs:List Gate) (s:eT):Prop where
 len:s.labels.length=2+I+gs.length
 GY:s.gG.length=2+I+gs.length
 q9:s.leaves.length=2+I+gs.length
 cut:∀(v:Nat) (C:List (List Int)),s.gG[v]?=some C->mF (λS=>iT I gs S v) (v+1) C/\C≠[]
 e6:∀C∈s.gG,C.length<=400
 zero:∀(v:Nat) (x:Int),v < 2+I->s.labels[v]?=some x->x=0
 pos:∀x∈s.labels,0<=x
 ji:∀(i:Nat) (l:List Int),s.leaves[2+I+i]?=some l->s.labels[2+I+i]?=some (1+cU s.labels l)
 lf:∀(i:Nat) (l:List Int) (g:Gate),s.leaves[2+I+i]?=some l->gs[i]?=some g->if g.op=7 then l=cC g else
  dM l/\l.length<=4/\(∀x∈l,2<=x/\x < 2+I+i)/\nh I gs (cC g) (·∈l)/\(∀S:List Int,S.length<=4->nh I gs (cC g) (·∈S)->dT S l=true->dT l S=true) /\
   ∀S:List Int,S.length<=4->nh I gs (cC g) (·∈S)->cU s.labels l<=cU s.labels S
theorem RZ {I:Nat} {gs:List Gate} (G:ca I gs) {s:eT} (h:oy I gs s) {m:Nat} (hm:m<=2+I+gs.length) {l:List Int} (ho:∀o∈l,0<=o/\o < m):mF (nh I gs l) m (qj s.gG l):=by
 suffices H:∀(l:List Int) (Q:(Int->Prop)->Prop) (A:List (List Int)),(∀S T:Int->Prop,(∀x,S x->T x)->Q S->Q T)->mF Q m A->(∀o∈l,0<=o/\o < m) ->
   mF (λS=>Q S/\nh I gs l S) m (l.foldl (λall o=>sY all (s.gG.getD o.toNat [])) A) by
  have h1:mF (λ_=>True) m [[]]:=⟨by simp,by simp,by simp,λ_ _=>trivial,λS _ _=>⟨[],by simp,by simp [dT]⟩,by simp⟩
  exact ((H l _ _ (λ_ _ _ _=>trivial) h1 ho).perm (Av _)).up (mr _) λS=>by simp
 intro l
 induction l with
 | nil=>intro Q A _ hA _;exact hA.up (mr _) λS=>by simp [nh]
 | cons o r ih =>
  intro Q A hQ hA ho
  obtain ⟨h0,h1⟩:=ho o (by simp)
  have aP:o.toNat < s.gG.length:=by rw [h.GY];omega
  have hC:=(h.cut o.toNat _ (eI aP)).1
  have e:s.gG.getD o.toNat []=s.gG[o.toNat]:=by rw [List.getD_eq_getElem?_getD,eI aP];rfl
  rw [kW,e]
  have EI:mF (λS=>iT I gs S o) m s.gG[o.toNat]:=hC.up (by omega) λS=>by rw [Int.toNat_of_nonneg h0]
  refine (ih _ _ ?_ (hA.step EI hQ λS T PO=>iT.mono PO) λx hx=>ho x (by simp [hx])).up (mr _) λS=>?_
  ·exact λS T PO hq=>⟨hQ S T PO hq.1,hq.2.mono PO⟩
  ·constructor
   ·rintro ⟨⟨a,b⟩,c⟩
    refine ⟨a,λx hx=>?_⟩
    rcases cV.1 hx with rfl|hx
    ·exact b
    ·exact c x hx
   ·rintro ⟨a,b⟩
    exact ⟨⟨a,b o (by simp)⟩,λx hx=>b x (by simp [hx])⟩
theorem iT.less {I:Nat} {gs hs:List Gate} (G:ca I (gs++hs)) {S:Int->Prop} {v:Int} (k:iT I (gs++hs) S v) (hv:v < 2+I+gs.length):iT I gs S v:=by
 induction k with
 | mem h1=>exact .mem h1
 | const h1 h2=>exact .const h1 h2
 | @gate i g h1 h2 h3 ih =>
  have hi:i < gs.length:=by omega
  have h4:gs[i]?=some g:=by rw [j7 hi] at h1;exact h1
  refine .gate h4 h2 λo ho=>ih o ho ?_
  have:=(G.ops h1 o ho).2
  omega
theorem iT.same {I:Nat} {gs hs:List Gate} (G:ca I (gs++hs)) {S:Int->Prop} {v:Int} (hv:v < 2+I+gs.length):iT I gs S v↔iT I (gs++hs) S v:=⟨iT.more,λh=>h.less G hv⟩
theorem nh.same {I:Nat} {gs hs:List Gate} (G:ca I (gs++hs)) {S:Int->Prop} {l:List Int} (hl:∀o∈l,o < 2+I+gs.length):nh I gs l S↔nh I (gs++hs) l S :=
 ⟨λh o ho=>(h o ho).more,λh o ho=>(h o ho).less G (hl o ho)⟩
theorem ca.left {I:Nat} {gs hs:List Gate} (G:ca I (gs++hs)):ca I gs :=
 ⟨by have:=G.k8;simp at this;omega,λi g h=>G.aT i g (by rw [j7 (bt.1 h).1];exact h)⟩
theorem MA {L l:List Int} {y:Int} (h:∀x∈l,x.toNat < L.length):cU (L++[y]) l=cU L l:=by
 unfold cU
 have:∀(l:List Int) (m:Int),(∀x∈l,x.toNat < L.length)->l.foldl (λm v=>max m ((L++[y]).getD v.toNat 0)) m=l.foldl (λm v=>max m (L.getD v.toNat 0)) m:=by
  intro l
  induction l with
  | nil=>intro m _;rfl
  | cons x r ih =>
   intro m h
   have hx:=h x (by simp)
   rw [kW,kW,ih _ λz hz=>h z (by simp [hz]),List.getD_eq_getElem?_getD,j7 hx,<-List.getD_eq_getElem?_getD]
 exact this l 0 h
theorem Yg {L:List Int} {y:Int} (hy:0<=y) (l:List Int):cU L l<=cU (L++[y]) l:=by
 refine AI (AV _ l) λv hv=>AA ?_ (M1 hv)
 rw [List.getD_eq_getElem?_getD,List.getD_eq_getElem?_getD,xE]
 split
 ·exact mr _
 ·rename_i h
  rw [nF (by omega)]
  cases h2:[y][v.toNat - L.length]? with
  | none=>exact mr _
  | some z =>
   have:=cB h2
   simp at this;subst this;exact hy
theorem akn (I:Nat):oy I [] (lQ I):=by
 have hc:∀(v:Nat) (C:List (List Int)),(lQ I).gG[v]?=some C->(v < 2/\C=[[]])\/(2<=v/\v < 2+I/\C=[[(v:Int)]]):=by
  intro v C h
  match v,h with
  | 0,h=>simp [lQ] at h;exact .inl ⟨by omega,h.symm⟩
  | 1,h=>simp [lQ] at h;exact .inl ⟨by omega,h.symm⟩
  | v+2,h =>
   simp [lQ] at h
   obtain ⟨k,h1,h2⟩:=h
   obtain ⟨h3,h4⟩:=bt.1 h1
   simp at h3 h4
   exact .inr ⟨by omega,by omega,by rw [<-h2,<-h4,show ((v+2:Nat):Int)=2+(v:Int) by omega]⟩
 refine ⟨by simp [lQ],by simp [lQ];omega,by simp [lQ],λv C h=>?_,λC h=>?_,λv x _ h=>?_,λx h=>?_,λi l h=>?_,λi l g h hg=>by simp at hg⟩
 ·rcases hc v C h with ⟨hv,rfl⟩|⟨h1,h2,rfl⟩
  ·exact ⟨⟨by simp,by simp,by simp,λc hc=>.const (by omega) (by omega),λS _ _=>⟨[],by simp,by simp [dT]⟩,by simp⟩,by simp⟩
  ·refine ⟨⟨by simp,by simp,λc hc x hx=>?_,λc hc=>?_,λS _ hS=>⟨[(v:Int)],by simp,?_⟩,by simp⟩,by simp⟩
   ·simp at hc;subst hc;simp at hx;omega
   ·simp at hc;subst hc;exact .mem (by simp)
   ·rw [qh];intro x hx;simp at hx;subst hx;exact hS.input (by omega) (by omega)
 ·obtain ⟨v,hv⟩:=nG h
  rcases hc v C hv with ⟨_,rfl⟩|⟨_,_,rfl⟩<;>simp
 ·simp [lQ,sI] at h;exact h.2.symm
 ·simp [lQ] at h;omega
 ·exfalso
  have:=(bt.1 h).1
  simp [lQ] at this
  omega
theorem alp {M:List (List Int)} (ha:zu M) {x:List Int} {r:List (List Int)} (hM:M=x :: r) (hx:x.length=0):r=[]:=by
 subst hM
 cases r with
 | nil=>rfl
 | cons y r =>
  have:=((fH.1 ha).1 y (by simp)).1
  rw [iF hx] at this
  simp [dT] at this
theorem Zo (v:Int) (x:List Int) (r:List (List Int)):JA v (x :: r)=if x.length=0 then x :: r else [v] :: x :: r:=rfl
theorem amF {I:Nat} {gs:List Gate} {g:Gate} (G:ca I (gs++[g])) {s s':eT} (h:oy I gs s) (e:xL s g=some s'):oy I (gs++[g]) s':=by
 have G0:=G.left
 have hg:(gs++[g])[gs.length]?=some g:=by simp
 have kG:=G.ops hg
 have aP:∀o∈cC g,o < 2+(I:Int)+gs.length:=λo ho=>(kG o ho).2
 have key:∀(c:List (List Int)) (l:List Int),s'=⟨s.labels++[1+cU s.labels l],s.gG++[c],s.leaves++[l]⟩->(mF (λS=>iT I (gs++[g]) S (2+I+gs.length:Nat)) ((2+I+gs.length:Nat)+1) c/\c≠[])->c.length<=400 ->
   (∀x∈l,0<=x/\x < 2+(I:Int)+gs.length)->(if g.op=7 then l=cC g else dM l/\l.length<=4/\(∀x∈l,2<=x/\x < 2+(I:Int)+gs.length)/\nh I (gs++[g]) (cC g) (·∈l) /\
    (∀S:List Int,S.length<=4->nh I (gs++[g]) (cC g) (·∈S)->dT S l=true->dT l S=true)/\∀S:List Int,S.length<=4->nh I (gs++[g]) (cC g) (·∈S)->cU s.labels l<=cU s.labels S)->oy I (gs++[g]) s':=by
  intro c l uC BA hc4 hl cw
  subst uC
  have hy:0<=1+cU s.labels l:=by have:=AV s.labels l;omega
  refine ⟨by simp [h.len];omega,by simp [h.GY];omega,by simp [h.q9];omega,λv C hv=>?_,λC hC=>?_,λv x hv hx=>?_,λx hx=>?_,λi l' iL=>?_,λi l' g' iL kq=>?_⟩
  ·rw [xE] at hv
   split at hv
   ·rename_i aP
    rw [h.GY] at aP
    obtain ⟨h1,h2⟩:=h.cut v C hv
    exact ⟨h1.up (mr _) λS=>iT.same G (by omega),h2⟩
   ·rename_i aP
    have ib:v=2+I+gs.length:=by
     have:=(bt.1 hv).1
     rw [h.GY] at this aP
     simp at this;omega
    subst ib
    simp [h.GY] at hv
    subst hv
    exact BA
  ·rcases dR.1 hC with hC|hC
   ·exact h.e6 C hC
   ·simp at hC;subst hC;exact hc4
  ·rw [j7 (by rw [h.len];omega)] at hx
   exact h.zero v x hv hx
  ·rcases dR.1 hx with hx|hx
   ·exact h.pos x hx
   ·simp at hx;omega
  ·by_cases hi:i < gs.length
   ·rw [j7 (by rw [h.q9];omega)] at iL
    rw [j7 (by rw [h.len];omega),h.ji i l' iL,MA λx hx=>?_]
    rw [h.len]
    have jX:=eI hi
    have:=h.lf i l' _ iL jX
    split at this
    ·subst this;have:=G0.ops jX x hx;omega
    ·have:=this.2.2.1 x hx;omega
   ·have dV:i=gs.length:=by
     have:=(bt.1 iL).1
     simp [h.q9] at this;omega
    subst dV
    have e1:(s.leaves++[l])[2+I+gs.length]?=some l:=by rw [<-h.q9];simp
    have e2:(s.labels++[1+cU s.labels l])[2+I+gs.length]?=some (1+cU s.labels l):=by rw [<-h.len];simp
    simp only at iL ⊢
    rw [e1] at iL
    cases iL
    rw [e2,MA λx hx=>by rw [h.len];have:=hl x hx;omega]
  ·by_cases hi:i < gs.length
   ·rw [j7 (by rw [h.q9];omega)] at iL
    rw [j7 hi] at kq
    have fC:∀o∈cC g',o < 2+(I:Int)+gs.length:=λo ho=>by have:=G0.ops kq o ho;omega
    have:=h.lf i l' g' iL kq
    split at this
    ·rename_i h7;rw [if_pos h7];exact this
    ·rename_i h7
     rw [if_neg h7]
     obtain ⟨a1,a2,a3,a4,a5,a6⟩:=this
     refine ⟨a1,a2,a3,(nh.same G fC).1 a4,λS hS hq=>a5 S hS ((nh.same G fC).2 hq),λS hS hq=>?_⟩
     rw [MA λx hx=>by rw [h.len];have:=a3 x hx;omega]
     exact AA (a6 S hS ((nh.same G fC).2 hq)) (Yg hy S)
   ·have dV:i=gs.length:=by
     have:=(bt.1 kq).1
     simp at this;omega
    subst dV
    rw [hg] at kq;cases kq
    have e1:(s.leaves++[l])[2+I+gs.length]?=some l:=by rw [<-h.q9];simp
    simp only at iL
    rw [e1] at iL
    cases iL
    split at cw
    ·rename_i h7;rw [if_pos h7];exact cw
    ·rename_i h7
     rw [if_neg h7]
     obtain ⟨a1,a2,a3,a4,a5,a6⟩:=cw
     refine ⟨a1,a2,a3,a4,a5,λS hS hq=>?_⟩
     rw [MA λx hx=>by rw [h.len];have:=a3 x hx;omega]
     exact AA (a6 S hS hq) (Yg hy S)
 have il:((s.labels.length:Nat):Int)=2+(I:Int)+gs.length:=by rw [h.len];omega
 have yp:(((2+I+gs.length:Nat)):Int)=2+(I:Int)+gs.length:=by omega
 unfold xL at e
 split at e
 ·rename_i h7
  cases e
  refine key _ _ rfl ⟨⟨by simp,by simp,λc hc x hx=>?_,λc hc=>?_,λS _ hS=>⟨_,j9.2 rfl,?_⟩,by simp⟩,by simp⟩ (by simp) kG (by rw [if_pos h7])
  ·simp only [j9] at hc;subst hc;simp only [j9] at hx;omega
  ·simp only [j9] at hc;subst hc;rw [yp,<-il];exact .mem (by simp)
  ·rw [qh]
   intro x hx
   simp only [j9] at hx
   subst hx
   rw [il]
   rw [yp] at hS
   by_cases hm:2+(I:Int)+gs.length∈S
   ·exact hm
   ·exact absurd h7 (hS.inv hg hm).1
 ·rename_i h7
  have hM:=RZ G0 h (m:=2+I+gs.length) (fq _) (l:=cC g) λo ho=>by have:=kG o ho;omega
  have hMq:∀S,nh I gs (cC g) S↔nh I (gs++[g]) (cC g) S:=λS=>nh.same G aP
  have hM:=hM.up (mr _) hMq
  cases hm:qj s.gG (cC g) with
  | nil=>rw [hm] at e;cases e
  | cons x r =>
   rw [hm] at e hM
   simp only at e
   split at e
   ·cases e
   ·rename_i aCD
    cases e
    have gk:=I7 (f:=cU s.labels) (r:=r) (m:=x)
    have Eh:=hM.lim _ gk
    have kq:∀S,iT I (gs++[g]) S (2+I+gs.length:Nat)->¬S (2+(I:Int)+gs.length)->nh I (gs++[g]) (cC g) S:=λS hS hn=>by
     rw [yp] at hS
     exact (hS.inv hg hn).2
    refine key _ _ rfl ⟨?_,?_⟩ (by omega) (λy hy=>by have:=Eh y hy;omega) (by
     rw [if_neg h7]
     refine ⟨hM.inc _ gk,hM.len _ gk,λy hy=>by have:=Eh y hy;omega,hM.cut _ gk,λS hS hq J0=>?_,λS hS hq=>?_⟩
     ·obtain ⟨c,hc,fS⟩:=hM.all S hS hq
      have jC:=Mz fS J0
      by_cases n8:c=kh (cU s.labels) x r
      ·rw [<-n8];exact fS
      ·have:=amG hM.um hc gk n8
       rw [jC] at this;cases this
     ·obtain ⟨c,hc,fS⟩:=hM.all S hS hq
      exact AA (aau c hc) (ajN fS))
    ·rw [Zo]
     split
     ·rename_i h0
      have hr:=alp hM.um rfl h0
      subst hr
      have hx:x=[]:=iF h0
      subst hx
      refine ⟨by simp,by simp,by simp,λc hc=>?_,λS _ _=>⟨[],by simp,by simp [dT]⟩,by simp⟩
      simp at hc;subst hc
      rw [yp]
      exact .gate hg h7 (hM.cut [] (by simp))
     ·rename_i h0
      refine ⟨λc hc=>?_,λc hc=>?_,λc hc y hy=>?_,λc hc=>?_,λS hS hq=>?_,?_⟩
      ·rcases cV.1 hc with rfl|hc
       ·simp
       ·exact hM.inc c hc
      ·rcases cV.1 hc with rfl|hc
       ·simp
       ·exact hM.len c hc
      ·rcases cV.1 hc with rfl|hc
       ·simp only [j9] at hy;omega
       ·have:=hM.lim c hc y hy;omega
      ·rcases cV.1 hc with rfl|hc
       ·rw [yp,<-il];exact .mem (by simp)
       ·rw [yp];exact .gate hg h7 (hM.cut c hc)
      ·by_cases hm:2+(I:Int)+gs.length∈S
       ·exact ⟨_,Rq,by rw [qh];intro y hy;simp only [j9] at hy;subst hy;rw [il];exact hm⟩
       ·obtain ⟨c,hc,fS⟩:=hM.all S hS (kq _ hq hm)
        exact ⟨c,rH _ hc,fS⟩
      ·refine fH.2 ⟨λc hc=>?_,hM.um⟩
       have jC:=hM.lim c hc
       refine ⟨?_,?_⟩
       ·cases hq:dT [(s.labels.length:Int)] c with
        | false=>rfl
        | true=>have:=jC _ (qh.1 hq (s.labels.length:Int) (by simp));omega
       ·cases hq:dT c [(s.labels.length:Int)] with
        | false=>rfl
        | true =>
         cases c with
         | nil =>
          have:=akm hm ((Av _).mem_iff.1 (show []∈pG _ by show []∈qj s.gG (cC g);rw [hm];exact hc))
          simp at this;exact absurd (by rw [this];rfl) h0
         | cons y c =>
          have h1:=qh.1 hq y (by simp)
          have h2:=jC y (by simp)
          simp at h1;omega
    ·rw [Zo];split<;>simp
where
 amG {L:List (List Int)} (h:zu L) {a b:List Int} (ha:a∈L) (hb:b∈L) (bW:a≠b):dT a b=false:=by
  induction L with
  | nil=>cases ha
  | cons x r ih =>
   have h':=fH.1 h
   rcases cV.1 ha with e|ha'
   ·rcases cV.1 hb with e'|iV
    ·exact absurd (e.trans e'.symm) bW
    ·rw [e];exact (h'.1 b iV).1
   ·rcases cV.1 hb with e'|iV
    ·rw [e'];exact (h'.1 a ha').2
    ·exact ih h'.2 ha' iV
theorem ako {I:Nat} {gs:List Gate} {g:Gate} (G:ca I (gs++[g])) {s:eT} (h:oy I gs s):qj s.gG (cC g)≠[]:=by
 have kG:=G.ops (i:=gs.length) (g:=g) (by simp)
 have hM:=RZ G.left h (m:=2+I+gs.length) (fq _) (l:=cC g) λo ho=>by have:=kG o ho;omega
 obtain ⟨c,hc,_⟩:=hM.all (cC g) (by have:=(xF g).2;omega) λo ho=>.mem ho
 exact List.ne_nil_of_mem hc
theorem Js {I:Nat}:∀(n:Nat) {gs:List Gate} {s:eT},gs.length=n->ca I gs->kF I gs=some s->oy I gs s
 | 0,gs,s,hn,_,h=>by
  have:=iF hn
  subst this
  simp [kF] at h;subst h;exact akn I
 | n+1,gs,s,hn,G,h=>by
  have bW:gs≠[]:=λe=>by rw [e] at hn;simp at hn
  have e:=List.dropLast_concat_getLast bW
  rw [<-e] at G h ⊢
  rw [M9] at h
  cases h1:kF I gs.dropLast with
  | none=>rw [h1] at h;cases h
  | some s0=>rw [h1] at h;exact amF G (Js n (by simp [hn]) G.left h1) h
def xT (nd:List Bool) (l:List Int):List Bool:=l.foldl (λnd x=>nd.set x.toNat true) nd
def zk (nx:Nat->List Int):Nat->List Bool->List Bool
 | 0,nd=>nd
 | v+1,nd=>zk nx v (if nd.getD v false then xT nd (nx v) else nd)
inductive n9 (nx:Nat->List Int) (S:Nat->Prop):Nat->Prop
 | base {v:Nat}:S v->n9 nx S v
 | step {u:Nat} {x:Int}:n9 nx S u->x∈nx u->n9 nx S x.toNat
theorem n9.mono {nx:Nat->List Int} {S T:Nat->Prop} (h:∀v,S v->n9 nx T v) {v:Nat} (k:n9 nx S v):n9 nx T v:=by
 induction k with
 | base h1=>exact h _ h1
 | step _ h2 ih=>exact .step ih h2
theorem AJ:∀(l:List Int) (nd:List Bool),(xT nd l).length=nd.length
 | [],nd=>rfl
 | x :: r,nd=>by unfold xT;rw [kW];exact (AJ r _).trans (by simp)
theorem xz:∀{l:List Int} {nd:List Bool} {v:Nat},(xT nd l)[v]?=some true↔nd[v]?=some true\/v < nd.length/\∃x∈l,x.toNat=v
 | [],nd,v=>by simp [xT]
 | x :: r,nd,v=>by
  unfold xT
  rw [kW]
  have h:=xz (l:=r) (nd:=nd.set x.toNat true) (v:=v)
  unfold xT at h
  rw [h,gY,ou]
  by_cases e:x.toNat=v
  ·subst e
   by_cases hl:x.toNat < nd.length
   ·simp [hl]
   ·simp [hl]
  ·simp only [e,if_false,cV]
   constructor
   ·rintro (h|⟨h,y,hy,he⟩)
    ·exact .inl h
    ·exact .inr ⟨h,y,.inr hy,he⟩
   ·rintro (h|⟨h,y,hy|hy,he⟩)
    ·exact .inl h
    ·subst hy;exact absurd he e
    ·exact .inr ⟨h,y,hy,he⟩
theorem Zp (nx:Nat->List Int):∀(n:Nat) (nd:List Bool),(zk nx n nd).length=nd.length
 | 0,nd=>rfl
 | v+1,nd=>by
  unfold zk
  rw [Zp nx v]
  split
  ·exact AJ _ _
  ·rfl
theorem FV {nd:List Bool} {v:Nat}:nd.getD v false=true↔nd[v]?=some true:=by
 rw [List.getD_eq_getElem?_getD]
 cases nd[v]? with
 | none=>simp
 | some b=>simp
theorem M3 {nx:Nat->List Int} (hx:∀(v:Nat) (x:Int),x∈nx v->0<=x/\x < v):∀(n:Nat) {nd:List Bool} {v:Nat},(∀u,n<=u->nd[u]?=some true->∀x∈nx u,nd[x.toNat]?=some true) ->
  ((zk nx n nd)[v]?=some true↔v < nd.length/\n9 nx (λu=>nd[u]?=some true) v)
 | 0,nd,v,hc=>by
  show nd[v]?=some true↔_
  refine ⟨λh=>⟨(bt.1 h).1,.base h⟩,λhh=>?_⟩
  have h:=hh.2
  clear hx hh
  induction h with
  | base h=>exact h
  | step h1 h2 ih=>exact hc _ (cg _) (ih) _ h2
 | n+1,nd,v,hc=>by
  unfold zk
  rw [M3 hx n (λu hu hm x PQ=>?_)]
  ·split
   ·rename_i hn
    have hn:=FV.1 hn
    rw [AJ]
    refine and_congr_right λhv=>⟨λh=>h.mono λu hu=>?_,λh=>h.mono λu hu=>.base (xz.2 (.inl hu))⟩
    rcases xz.1 hu with hu|⟨_,x,hx,rfl⟩
    ·exact .base hu
    ·exact .step (.base hn) hx
   ·exact yP
  ·by_cases kZ:u=n
   ·subst kZ
    split at hm
    ·rename_i hn
     rw [if_pos hn]
     have:=hx u x PQ
     refine xz.2 (.inr ⟨?_,x,PQ,rfl⟩)
     have:=(bt.1 (FV.1 hn)).1
     omega
    ·rename_i hn
     exact absurd (FV.2 hm) hn
   ·split at hm
    ·rename_i hn
     rw [if_pos hn]
     have aCE:n < u:=by omega
     rcases xz.1 hm with hm|⟨_,y,hy,he⟩
     ·exact xz.2 (.inl (hc u (by omega) hm x PQ))
     ·have:=hx n y hy;omega
    ·rename_i hn
     rw [if_neg hn]
     exact hc u (by omega) hm x PQ
def fI (I:Nat) (gs:List Gate) (v:Nat):Option Gate:=if v < 2+I then none else gs[v - 2 - I]?
def oe (I:Nat) (gs:List Gate) (S:List Int) (v:Nat):List Int:=if S.contains (v:Int) then [] else match fI I gs v with
 | some g=>if g.op=7 then [] else cC g
 | none=>[]
def qw (I:Nat) (gs:List Gate) (S:List Int) (v:Nat):Bool:=S.contains (v:Int)||decide (v < 2)||match fI I gs v with
 | some g=>decide (g.op≠7)
 | none=>false
def Dx (I:Nat) (gs:List Gate) (root:Nat) (S:List Int):List Bool:=zk (oe I gs S) (root+1) ((List.replicate (root+1) false).set root true)
def sM (N root:Int) (S:List Int):Bool:=decide (2<=root/\root < N)&&decide (S.length<=4)&&S.all (λl=>decide (2<=l/\l<=root))&&decide (dM S)
def eC (I:Nat) (gs:List Gate) (root:Int) (S:List Int):Option (List Int) :=
 if sM (2+I+gs.length) root S then
  let R:=Dx I gs root.toNat S
  if (List.range (root.toNat+1)).all (λv=>!R.getD v false||qw I gs S v)&&S.all (λx=>R.getD x.toNat false) then
   some (((List.range (root.toNat+1)).filter λv=>R.getD v false&&!S.contains (v:Int)&&decide (2<=v)).map λv:Nat=>(v:Int))
  else none
 else none
abbrev gM (I:Nat) (gs:List Gate) (S:List Int) (root v:Nat):Prop:=n9 (oe I gs S) (λu=>u=root) v
theorem lL {I:Nat} {gs:List Gate} {v:Nat} {g:Gate}:fI I gs v=some g↔∃i,v=2+I+i/\gs[i]?=some g:=by
 unfold fI
 split
 ·simp;intro i hi;omega
 ·constructor
  ·intro h;exact ⟨v - 2 - I,by omega,h⟩
  ·rintro ⟨i,rfl,h⟩
   rw [show 2+I+i - 2 - I=i by omega];exact h
theorem qk {I:Nat} {gs:List Gate} {S:List Int} {v:Nat} {x:Int}:x∈oe I gs S v↔(v:Int)∉S/\∃g,fI I gs v=some g/\g.op≠7/\x∈cC g:=by
 unfold oe
 split
 ·rename_i h;simp at h;simp [h]
 ·rename_i h
  simp at h
  cases hg:fI I gs v with
  | none=>simp
  | some g =>
   simp only
   split
   ·rename_i h7;simp [h7]
   ·rename_i h7;simp [h7,h]
theorem Bb {I:Nat} {gs:List Gate} (G:ca I gs) {S:List Int} {v:Nat} {x:Int} (h:x∈oe I gs S v):0<=x/\x < v:=by
 obtain ⟨_,g,hg,_,hx⟩:=qk.1 h
 obtain ⟨i,rfl,jX⟩:=lL.1 hg
 have:=G.ops jX x hx
 omega
theorem gM.le {I:Nat} {gs:List Gate} (G:ca I gs) {S:List Int} {root v:Nat} (h:gM I gs S root v):v<=root:=by
 induction h with
 | base h=>omega
 | step _ h2 ih=>have:=Bb G h2;omega
theorem wg {I:Nat} {gs:List Gate} (G:ca I gs) {S:List Int} {root v:Nat}:(Dx I gs root S).getD v false=true↔gM I gs S root v:=by
 rw [FV]
 unfold Dx
 have hs:∀u,((List.replicate (root+1) false).set root true)[u]?=some true↔u=root:=λu=>by
  rw [gY]
  by_cases e:root=u
  ·subst e;simp
  ·simp [e,sI];omega
 rw [M3 (λv x=>Bb G) _ λu hu hm=>by have:=(hs u).1 hm;omega]
 constructor
 ·rintro ⟨_,h⟩;exact h.mono λu hu=>.base ((hs u).1 hu)
 ·intro h
  exact ⟨by have:=gM.le G h;simp;omega,h.mono λu hu=>.base ((hs u).2 hu)⟩
theorem uZ {I:Nat} {gs:List Gate} {S:List Int} {v:Nat}:qw I gs S v=true↔(v:Int)∈S\/v < 2\/∃g,fI I gs v=some g/\g.op≠7:=by
 unfold qw
 cases fI I gs v<;>simp [or_assoc]
theorem I8 {I:Nat} {gs:List Gate} (G:ca I gs) {S:List Int}:∀(n root:Nat),root < n->(iT I gs (·∈S) root↔∀v,gM I gs S root v->qw I gs S v=true)
 | 0,_,h=>by omega
 | n+1,root,hn=>by
  constructor
  ·intro h v hv
   generalize hr:(root:Int)=r at h
   have main:∀(r:Int),iT I gs (·∈S) r->∀root:Nat,(root:Int)=r->∀v,gM I gs S root v->qw I gs S v=true:=by
    intro r h
    induction h with
    | mem h1 =>
     rintro root rfl v hv
     have:v=root:=by
      induction hv with
      | base h=>exact h
      | step _ h2 ih=>rw [ih] at h2;exact absurd h1 (qk.1 h2).1
     subst this
     exact uZ.2 (.inl h1)
    | const h1 h2 =>
     rintro root rfl v hv
     have:=gM.le G hv
     exact uZ.2 (.inr (.inl (by omega)))
    | @gate i g h1 h2 h3 ih =>
     intro root hr v hv
     have ap0:root=2+I+i:=by omega
     subst ap0
     have rq:fI I gs (2+I+i)=some g:=lL.2 ⟨i,rfl,h1⟩
     have:v=2+I+i\/∃o∈cC g,gM I gs S o.toNat v:=by
      induction hv with
      | base h=>exact .inl h
      | step _ hx ihx =>
       rcases ihx with rfl|⟨o,ho,hr⟩
       ·obtain ⟨_,g',kq,_,jK⟩:=qk.1 hx
        rw [rq] at kq;cases kq
        exact .inr ⟨_,jK,.base rfl⟩
       ·exact .inr ⟨o,ho,.step hr hx⟩
     rcases this with rfl|⟨o,ho,hr⟩
     ·exact uZ.2 (.inr (.inr ⟨g,rq,h2⟩))
     ·exact ih o ho o.toNat (by have:=G.ops h1 o ho;omega) v hr
   exact main r h root hr v hv
  ·intro h
   rcases uZ.1 (h root (.base rfl)) with h1|h1|⟨g,hg,h7⟩
   ·exact .mem h1
   ·exact .const (by omega) (by omega)
   ·by_cases hm:(root:Int)∈S
    ·exact .mem hm
    ·obtain ⟨i,rfl,jX⟩:=lL.1 hg
     have:((2+I+i:Nat):Int)=2+(I:Int)+i:=by omega
     rw [this]
     refine .gate jX h7 λo ho=>?_
     have hb:=G.ops jX o ho
     have im:o∈oe I gs S (2+I+i):=qk.2 ⟨hm,g,hg,h7,ho⟩
     rw [<-Int.toNat_of_nonneg hb.1]
     exact (I8 G n o.toNat (by omega)).2 λv hv=>h v (hv.mono λu hu=>by subst hu;exact .step (.base rfl) im)
structure Bc (N root:Int) (S:List Int):Prop where
 lo:2<=root
 hi:root < N
 len:S.length<=4
 mem:∀l∈S,2<=l/\l<=root
 inc:dM S
theorem Ar {N root:Int} {S:List Int}:sM N root S=true↔Bc N root S:=by
 unfold sM
 simp only [cQ,decide_eq_true_eq,jo]
 exact ⟨λ⟨⟨⟨h1,h2⟩,h3⟩,h4⟩=>⟨h1.1,h1.2,h2,h3,h4⟩,λh=>⟨⟨⟨⟨h.lo,h.hi⟩,h.len⟩,h.mem⟩,h.inc⟩⟩
theorem CS {I:Nat} {gs:List Gate} (G:ca I gs) {root:Int} {S:List Int}:(eC I gs root S).isSome=true↔Bc (2+I+gs.length) root S/\iT I gs (·∈S) root/\∀x∈S,gM I gs S root.toNat x.toNat:=by
 unfold eC
 split
 ·rename_i hl
  have hL:=Ar.1 hl
  have hr:((root.toNat:Nat):Int)=root:=Int.toNat_of_nonneg (by have:=hL.lo;omega)
  have h1:(List.range (root.toNat+1)).all (λv=>!(Dx I gs root.toNat S).getD v false||qw I gs S v)=true↔iT I gs (·∈S) root:=by
   rw [<-hr,I8 G (root.toNat+1) root.toNat (wo _),hr,jo]
   constructor
   ·intro h v hv
    have:=h v (mX.2 (by have:=gM.le G hv;omega))
    rw [wg G |>.2 hv] at this
    simpa using this
   ·intro h v _
    cases hq:(Dx I gs root.toNat S).getD v false with
    | false=>simp
    | true=>simp [h v ((wg G).1 hq)]
  have h2:S.all (λx=>(Dx I gs root.toNat S).getD x.toNat false)=true↔∀x∈S,gM I gs S root.toNat x.toNat:=by
   rw [jo]
   exact ⟨λh x hx=>(wg G).1 (h x hx),λh x hx=>(wg G).2 (h x hx)⟩
  simp only
  rw [<-h1,<-h2]
  split
  ·rename_i h;simp only [cQ] at h;exact ⟨λ_=>⟨hL,h⟩,λ_=>rfl⟩
  ·rename_i h;simp only [cQ] at h;exact ⟨λh'=>(by cases h'),λh'=>absurd h'.2 h⟩
 ·rename_i hl
  have:¬Bc (2+I+gs.length) root S:=λh=>hl (Ar.2 h)
  simp [this]
theorem AK {I:Nat} {gs:List Gate} (G:ca I gs) {root:Int} {S l:List Int} (h:eC I gs root S=some l):dM l/\∀v:Int,v∈l↔2<=v/\gM I gs S root.toNat v.toNat/\v∉S:=by
 unfold eC at h
 split at h
 ·simp only at h
  split at h
  ·cases h
   refine ⟨?_,λv=>?_⟩
   ·unfold dM
    rw [rJ]
    exact (C6.filter _).imp λh=>by omega
   ·rw [jS]
    constructor
    ·rintro ⟨u,hu,rfl⟩
     obtain ⟨h1,h2⟩:=mW.1 hu
     simp only [cQ,pw,decide_eq_true_eq] at h2
     refine ⟨by omega,(wg G).1 h2.1.1,?_⟩
     simpa using h2.1.2
    ·rintro ⟨h1,h2,h3⟩
     have e:((v.toNat:Nat):Int)=v:=Int.toNat_of_nonneg (by omega)
     refine ⟨v.toNat,mW.2 ⟨mX.2 (by have:=gM.le (root:=root.toNat) (v:=v.toNat) G h2;omega),?_⟩,e⟩
     simp only [cQ,pw,decide_eq_true_eq]
     exact ⟨⟨(wg G).2 h2,by rw [e];simpa using h3⟩,by omega⟩
  ·cases h
 ·cases h
def wA (j:Nat):Int:=([0xaaaa,0xcccc,0xf0f0,0xff00]:List Int).getD j 0
def pL (a b:Int):Int:=fN .and .i64 a b
def B6 (a b:Int):Int:=fN .or .i64 a b
def Ei (a b:Int):Int:=fN .xor .i64 a b
def combineM (op a b c:Int):Int:=if op=1 then Ei (-1) a else if op=2 then pL a b else if op=3 then B6 a b else if op=4 then Ei a b else
 if op=5 then B6 (pL a b) (pL (Ei (-1) a) c) else B6 (B6 (pL a b) (pL a c)) (pL b c)
def Gx (I:Nat) (gs:List Gate) (S:List Int) (f:Nat->Int) (v:Nat):Int:=match S.findIdx? (λx=>decide (x=(v:Int))) with
 | some j=>wA j
 | none=>if v=1 then -1 else match fI I gs v with
  | some g=>combineM g.op (f g.a.toNat) (f g.b.toNat) (f g.c.toNat)
  | none=>0
def Bp (I:Nat) (gs:List Gate) (S:List Int):Nat->List Int
 | 0=>[]
 | n+1=>let L:=Bp I gs S n;L++[Gx I gs S (λu=>L.getD u 0) n]
def fX (I:Nat) (gs:List Gate) (S:List Int) (v:Nat):Int:=(Bp I gs S (v+1)).getD v 0
theorem M4 (I:Nat) (gs:List Gate) (S:List Int):∀n,(Bp I gs S n).length=n
 | 0=>rfl
 | n+1=>by show (Bp I gs S n++[_]).length=_;rw [List.length_append,M4 I gs S n];rfl
theorem Na {I:Nat} {gs:List Gate} {S:List Int}:∀{n v:Nat},v < n->(Bp I gs S n).getD v 0=fX I gs S v
 | 0,v,h=>by omega
 | n+1,v,h=>by
  by_cases e:v=n
  ·subst e;rfl
  ·rw [<-Na (n:=n) (show v < n by omega)]
   show (Bp I gs S n++[_]).getD v 0=_
   rw [List.getD_eq_getElem?_getD,j7 (by rw [M4];omega),<-List.getD_eq_getElem?_getD]
theorem Nk (I:Nat) (gs:List Gate) (S:List Int) (v:Nat):fX I gs S v=Gx I gs S (λu=>(Bp I gs S v).getD u 0) v:=by
 show (Bp I gs S v++[_]).getD v 0=_
 rw [List.getD_eq_getElem?_getD,qb (by rw [M4];omega),M4,yO]
 rfl
theorem R0 {I:Nat} {gs:List Gate} (G:ca I gs) {S:List Int} {v:Nat} (hS:(v:Int)∉S) {g:Gate} (hg:fI I gs v=some g) :
  fX I gs S v=combineM g.op (fX I gs S g.a.toNat) (fX I gs S g.b.toNat) (fX I gs S g.c.toNat):=by
 obtain ⟨i,rfl,jX⟩:=lL.1 hg
 have k:=G.aT i g jX
 have h1:S.findIdx? (λx=>decide (x=((2+I+i:Nat):Int)))=none:=by
  rw [AM]
  intro x hx
  simp only [decide_eq_false_iff_not]
  rintro rfl
  exact hS hx
 rw [Nk]
 unfold Gx
 rw [h1]
 simp only [hg]
 rw [if_neg (by omega),Na (by have:=k.a;omega),Na (by have:=k.b;omega),Na (by have:=k.c;omega)]
def xM (I:Nat) (gs:List Gate) (root:Int) (S:List Int):Int:=pL (fX I gs S root.toNat) (2^(2^S.length) - 1)
def nU (I:Nat) (gs:List Gate) (root:Int) (S:List Int):Int × Int:=match eC I gs root S with
 | none=>(0,250)
 | some _=>(xM I gs root S,0)
def oW (sig:Int->Option Int):List Int->List Int × Bool
 | []=>([],true)
 | l :: r=>match sig l with
  | none=>([],false)
  | some s=>(s :: (oW sig r).1,(oW sig r).2)
theorem IF {sig:Int->Option Int}:∀{l:List Int},(∀x∈l,∃s,sig x=some s)->oW sig l=(l.map λx=>(sig x).getD 0,true)
 | [],_=>rfl
 | x :: r,h=>by
  obtain ⟨s,hs⟩:=h x (by simp)
  simp only [oW,hs,IF (l:=r) λy hy=>h y (by simp [hy]),iE,u5]
theorem QQ {sig:Int->Option Int}:∀{l:List Int},(oW sig l).2=true->∀x∈l,∃s,sig x=some s
 | [],_=>by simp
 | y :: r,h=>by
  intro x hx
  simp only [oW] at h
  cases hs:sig y with
  | none=>rw [hs] at h;cases h
  | some s =>
   rw [hs] at h
   rcases cV.1 hx with rfl|hx
   ·exact ⟨s,hs⟩
   ·exact QQ h x hx
def cellOf (I:Nat) (gs:List Gate) (root:Int) (S:List Int) (sig:Int->Option Int):Cell × Int :=
 if (
   oW sig S).2 then match fI I gs root.toNat with
  | some g=>if g.op=7 then (⟨(oW sig S).1,0,g.n⟩,if S=cC g then 0 else 260)
   else if S=[root] then (⟨(oW sig S).1,0,-1⟩,260)
   else (⟨(oW sig S).1,(nU I gs root S).1,-1⟩,if (nU I gs root S).2=0 then 0 else 260)
  | none=>(⟨(oW sig S).1,0,-1⟩,260)
 else (⟨(oW sig S).1,0,-1⟩,260)
def eP (I:Nat) (roots:List Int) (v:Int):Option Int:=if 0<=v/\v < 2+I then some v else (roots.findIdx? λx=>decide (x=v)).map λi:Nat=>2+(I:Int)+i
structure k9 where
 root:List Int
 leaves:List (List Int)
def na (s:eT) (v:Int):List Int:=s.leaves.getD v.toNat []
def kX (I:Nat) (s:eT) (bj:List Int):List Int :=
 let N:=s.leaves.length
 let nd:=zk (λv=>if v < 2+I then [] else s.leaves.getD v []) N (xT (List.replicate N false) bj)
 ((List.range N).filter λv=>nd.getD v false&&decide (2+I<=v)).map λv:Nat=>(v:Int)
def ox (I:Nat) (gs:List Gate) (s:eT) (bj:List Int):ej × k9 :=
 let R:=kX I s bj
 let sig:=eP I R
 (⟨I,R.map λr=>(cellOf I gs r (na s r) sig).1,bj.map λv=>(sig v).getD 0⟩,⟨R,R.map (na s)⟩)
def mapM (I:Nat) (gs:List Gate) (bj:List Int):ej × k9 × Int:=match kF I gs with
 | none=>(⟨0,[],[]⟩,⟨[],[]⟩,2)
 | some s=>((ox I gs s bj).1,(ox I gs s bj).2,0)
def Gj (x y:Cell):Bool:=decide (x.table=y.table)&&decide (x.ep=y.ep)&&decide (x.ins=y.ins)
def ow (I:Nat) (gs:List Gate) (sig:Int->Option Int):List Cell->List Int->List (List Int)->Bool
 | x :: cs,r :: rs,l :: ls=>decide ((cellOf I gs r l sig).2=0)&&Gj x (cellOf I gs r l sig).1&&ow I gs sig cs rs ls
 | _,_,_=>true
def oT (N:Int):Int->List Int->Bool
 | _,[]=>true
 | last,r :: rs=>decide (last < r/\r < N)&&oT N r rs
def ql (sig:Int->Option Int):List Int->List Int->Bool
 | v :: vs,s :: ss=>decide (sig v=some s)&&ql sig vs ss
 | _,_=>true
def mA (I:Nat) (gs:List Gate) (bj:List Int) (m:ej) (c:k9):Bool :=
 (decide (m.n=I)&&decide (c.root.length=m.cells.length)&&decide (c.leaves.length=m.cells.length)&&decide (m.bj.length=bj.length)) &&
  (oT (2+I+gs.length) (1+I) c.root&&(ow I gs (eP I c.root) m.cells c.root c.leaves&&ql (eP I c.root) bj m.bj))
abbrev lY (I:Nat) (s:eT) (v:Nat):List Int:=if v < 2+I then [] else s.leaves.getD v []
theorem Tk {I:Nat} {gs:List Gate} (G:ca I gs) {s:eT} (h:oy I gs s) (v:Nat) (x:Int) (hx:x∈lY I s v):0<=x/\x < v:=by
 unfold lY at hx
 split at hx
 ·cases hx
 ·cases hq:s.leaves[v]? with
  | none=>rw [List.getD_eq_getElem?_getD,hq] at hx;cases hx
  | some l =>
   rw [List.getD_eq_getElem?_getD,hq,u5] at hx
   have il:=(bt.1 hq).1
   rw [h.q9] at il
   have e:2+I+(v - 2 - I)=v:=by omega
   have hg:=eI (l:=gs) (i:=v - 2 - I) (by omega)
   have:=h.lf (v - 2 - I) l _ (by rw [e];exact hq) hg
   split at this
   ·subst this;have:=G.ops hg x hx;omega
   ·have:=this.2.2.1 x hx;omega
theorem YF {I:Nat} {gs:List Gate} (G:ca I gs) {s:eT} (h:oy I gs s) {bj:List Int} (hd:∀d∈bj,0<=d/\d < 2+I+gs.length) (v:Nat) :
  (v:Int)∈kX I s bj↔2+I<=v/\v < 2+I+gs.length/\n9 (lY I s) (λu=>∃d∈bj,d.toNat=u) v:=by
 have cw:=Tk G h
 unfold kX
 simp only [jS]
 have h1:(zk (lY I s) s.leaves.length (xT (List.replicate s.leaves.length false) bj)).getD v false=true↔v < 2+I+gs.length/\n9 (lY I s) (λu=>∃d∈bj,d.toNat=u) v:=by
  rw [FV,M3 cw _ λu hu hm=>by have:=(bt.1 hm).1;rw [AJ] at this;simp at this;omega]
  rw [AJ,tT,h.q9]
  refine and_congr_right λ_=>⟨λk=>k.mono λu hu=>?_,λk=>k.mono λu hu=>?_⟩
  ·rcases xz.1 hu with hu|⟨_,hu⟩
   ·simp [sI] at hu
   ·exact .base hu
  ·obtain ⟨d,lZ,rfl⟩:=hu
   refine .base (xz.2 (.inr ⟨?_,d,lZ,rfl⟩))
   have:=hd d lZ
   simp;omega
 constructor
 ·rintro ⟨u,hu,e⟩
  have:u=v:=by omega
  subst this
  obtain ⟨_,hu⟩:=mW.1 hu
  simp only [cQ,decide_eq_true_eq] at hu
  exact ⟨hu.2,h1.1 hu.1⟩
 ·rintro ⟨a,b⟩
  refine ⟨v,mW.2 ⟨mX.2 (by rw [h.q9];exact b.1),?_⟩,rfl⟩
  simp only [cQ,decide_eq_true_eq]
  exact ⟨h1.2 b,a⟩
theorem YG (I:Nat) (s:eT) (bj:List Int):dM (kX I s bj):=by
 unfold kX dM
 rw [rJ]
 exact (C6.filter _).imp λh=>by omega
theorem YH {I:Nat} {s:eT} {bj:List Int} {r:Int} (hr:r∈kX I s bj):((r.toNat:Nat):Int)=r:=by
 unfold kX at hr
 obtain ⟨u,_,rfl⟩:=jS.1 hr
 rfl
theorem Yh {I:Nat} {gs:List Gate} (G:ca I gs) {s:eT} (h:oy I gs s) {bj:List Int} (hd:∀d∈bj,0<=d/\d < 2+I+gs.length) :
  dM (kX I s bj)/\(∀r∈kX I s bj,2+(I:Int)<=r/\r < 2+I+gs.length)/\(∀d∈bj,2+(I:Int)<=d->d∈kX I s bj) /\
   (∀r∈kX I s bj,∀x∈na s r,2+(I:Int)<=x->x∈kX I s bj)/\∀r∈kX I s bj,r∈bj\/∃u∈kX I s bj,r∈na s u:=by
 have cw:=Tk G h
 have hm:=YF G h hd
 have nat:∀r∈kX I s bj,((r.toNat:Nat):Int)=r:=λr hr=>YH hr
 refine ⟨YG I s bj,λr hr=>?_,λd lZ h2=>?_,λr hr x hx h2=>?_,λr hr=>?_⟩
 ·have e:=nat r hr
  rw [<-e] at hr
  have:=(hm _).1 hr
  omega
 ·have hb:=hd d lZ
  have e:((d.toNat:Nat):Int)=d:=Int.toNat_of_nonneg hb.1
  rw [<-e]
  exact (hm _).2 ⟨by omega,by omega,.base ⟨d,lZ,rfl⟩⟩
 ·have e:=nat r hr
  rw [<-e] at hr
  have k:=(hm _).1 hr
  have jK:x∈lY I s r.toNat:=by unfold lY;rw [if_neg (by omega)];exact hx
  have:=cw _ x jK
  have e':((x.toNat:Nat):Int)=x:=Int.toNat_of_nonneg this.1
  rw [<-e']
  exact (hm _).2 ⟨by omega,by omega,.step k.2.2 jK⟩
 ·have e:=nat r hr
  rw [<-e] at hr
  obtain ⟨k1,k2,k3⟩:=(hm _).1 hr
  generalize hq:r.toNat=q at *
  cases k3 with
  | base hb =>
   obtain ⟨d,lZ,he⟩:=hb
   have:=hd d lZ
   left
   rw [show r=d by omega]
   exact lZ
  | step hu hx =>
   rename_i u x
   right
   have jK:=cw _ _ hx
   unfold lY at hx
   split at hx
   ·cases hx
   ·rename_i BL
    refine ⟨(u:Int),(hm u).2 ⟨by omega,?_,hu⟩,?_⟩
    ·cases hq:s.leaves[u]? with
     | none=>rw [List.getD_eq_getElem?_getD,hq] at hx;cases hx
     | some l=>have:=(bt.1 hq).1;rw [h.q9] at this;exact this
    ·unfold na
     rw [show r=x by omega]
     simpa using hx
structure oE where
 ins:Int->Option Unit
 rch:Int->Option Unit
def BC (f:Int->Option Unit) (v:Int):Int->Option Unit:=λj=>if j=v then some () else f j
theorem Da {f:Int->Option Unit} {v u:Int}:(BC f v u).isSome=true↔u=v\/(f u).isSome=true:=by
 unfold BC
 by_cases h:u=v
 ·simp [h]
 ·simp [h]
def Ej (S:List Int) (st:oE) (x:Int):Prop:=(x∈S/\(st.rch x).isSome=true)\/(x∉S/\(x < 2\/(st.ins x).isSome=true))
theorem Ej.mono {S:List Int} {st dO:oE} (h1:∀u,(st.ins u).isSome=true->(dO.ins u).isSome=true) (h2:∀u,(st.rch u).isSome=true->(dO.rch u).isSome=true) {x:Int} (h:Ej S st x):Ej S dO x:=by
 rcases h with ⟨a,b⟩|⟨a,b|b⟩
 ·exact .inl ⟨a,h2 _ b⟩
 ·exact .inr ⟨a,.inl b⟩
 ·exact .inr ⟨a,.inr (h1 _ b)⟩
structure Gy (I:Nat) (gs:List Gate) (S:List Int) (st:oE) (u:Int):Prop where
 gate:∃g,fI I gs u.toNat=some g/\g.op≠7
 ch:∀x∈oe I gs S u.toNat,Ej S st x
theorem Gy.mono {I:Nat} {gs:List Gate} {S:List Int} {st dO:oE} (h1:∀u,(st.ins u).isSome=true->(dO.ins u).isSome=true) (h2:∀u,(st.rch u).isSome=true->(dO.rch u).isSome=true) {u:Int} (h:Gy I gs S st u):Gy I gs S dO u :=
 ⟨h.gate,λx hx=>(h.ch x hx).mono h1 h2⟩
structure oX (I:Nat) (gs:List Gate) (S:List Int) (st:oE) (v:Int) (res:Bool) (dO:oE):Prop where
 mI:∀u,(st.ins u).isSome=true->(dO.ins u).isSome=true
 mR:∀u,(st.rch u).isSome=true->(dO.rch u).isSome=true
 nI:∀u,(dO.ins u).isSome=true->(st.ins u).isSome=true\/∃w:Nat,u=w/\gM I gs S v.toNat w/\u∉S/\2<=u
 nR:∀u,(dO.rch u).isSome=true->(st.rch u).isSome=true\/∃w:Nat,u=w/\gM I gs S v.toNat w/\u∈S
 yes:res=true->Ej S dO v/\∀u,(dO.ins u).isSome=true->(st.ins u).isSome=true\/Gy I gs S dO u
 no:res=false->∃w:Nat,gM I gs S v.toNat w/\qw I gs S w=false
structure uq (I:Nat) (gs:List Gate) (S:List Int) (st:oE) (v:Int) (ops:List Int) (j:Nat) (dO:oE):Prop where
 le:j<=ops.length
 mI:∀u,(st.ins u).isSome=true->(dO.ins u).isSome=true
 mR:∀u,(st.rch u).isSome=true->(dO.rch u).isSome=true
 nI:∀u,(dO.ins u).isSome=true->(st.ins u).isSome=true\/∃w:Nat,u=w/\gM I gs S v.toNat w/\u∉S/\2<=u
 nR:∀u,(dO.rch u).isSome=true->(st.rch u).isSome=true\/∃w:Nat,u=w/\gM I gs S v.toNat w/\u∈S
 vi:(dO.ins v).isSome=true
 ch:∀i x,i < j->ops[i]?=some x->Ej S dO x
 nw:∀u,(dO.ins u).isSome=true->(st.ins u).isSome=true\/u=v\/Gy I gs S dO u
section
variable {I:Nat} {gs:List Gate} {S:List Int} {st dO:oE} {v:Int}
theorem oX.leaf (hv:0<=v) (hm:v∈S):oX I gs S st v true ⟨st.ins,BC st.rch v⟩ where
 mI _ h:=h
 mR _ h:=Da.2 (.inr h)
 nI _ h:=.inl h
 nR u h:=by
  rcases Da.1 h with rfl|h
  ·exact .inr ⟨u.toNat,by omega,.base rfl,hm⟩
  ·exact .inl h
 yes _:=⟨.inl ⟨hm,Da.2 (.inl rfl)⟩,λu h=>.inl h⟩
 no h:=by cases h
theorem oX.known (hm:v∉S) (h:v < 2\/(st.ins v).isSome=true):oX I gs S st v true st where
 mI _ h:=h
 mR _ h:=h
 nI _ h:=.inl h
 nR _ h:=.inl h
 yes _:=⟨.inr ⟨hm,h⟩,λu h=>.inl h⟩
 no h:=by cases h
theorem alq {w:Nat} (h1:(w:Int)∉S) (h2:2<=w) (h3:∀g,fI I gs w=some g->g.op=7):qw I gs S w=false:=by
 cases h:qw I gs S w with
 | false=>rfl
 | true =>
  rcases uZ.1 h with h|h|⟨g,hg,h7⟩
  ·exact absurd h h1
  ·omega
  ·exact absurd (h3 g hg) h7
theorem oX.bad (hv:2<=v) (hm:v∉S) (h:∀g,fI I gs v.toNat=some g->g.op=7):oX I gs S st v false st where
 mI _ h:=h
 mR _ h:=h
 nI _ h:=.inl h
 nR _ h:=.inl h
 yes h:=by cases h
 no _:=⟨v.toNat,.base rfl,alq (by rw [Int.toNat_of_nonneg (by omega)];exact hm) (by omega) h⟩
theorem uq.start (hv:2<=v) (hm:v∉S) (ops:List Int):uq I gs S st v ops 0 ⟨BC st.ins v,st.rch⟩ where
 le:=cg _
 mI _ h:=Da.2 (.inr h)
 mR _ h:=h
 nI u h:=by
  rcases Da.1 h with rfl|h
  ·exact .inr ⟨u.toNat,by omega,.base rfl,hm,hv⟩
  ·exact .inl h
 nR _ h:=.inl h
 vi:=Da.2 (.inl rfl)
 ch i x h:=by omega
 nw u h:=by
  rcases Da.1 h with rfl|h
  ·exact .inr (.inl rfl)
  ·exact .inl h
theorem Jt {x:Int} (hx:x∈oe I gs S v.toNat) {w:Nat} (h:gM I gs S x.toNat w):gM I gs S v.toNat w :=
 h.mono λu hu=>by subst hu;exact .step (.base rfl) hx
theorem uq.step {ops:List Int} {j:Nat} {x:Int} {xd:oE} (h:uq I gs S st v ops j dO) (hj:ops[j]?=some x) (hx:x∈oe I gs S v.toNat) (k:oX I gs S dO x true xd):uq I gs S st v ops (j+1) xd where
 le:=(bt.1 hj).1
 mI u hu:=k.mI u (h.mI u hu)
 mR u hu:=k.mR u (h.mR u hu)
 nI u hu:=by
  rcases k.nI u hu with hu|⟨w,a,b,c⟩
  ·exact h.nI u hu
  ·exact .inr ⟨w,a,Jt hx b,c⟩
 nR u hu:=by
  rcases k.nR u hu with hu|⟨w,a,b,c⟩
  ·exact h.nR u hu
  ·exact .inr ⟨w,a,Jt hx b,c⟩
 vi:=k.mI v h.vi
 ch i y hi hy:=by
  by_cases e:i=j
  ·subst e;rw [hj] at hy;cases hy;exact (k.yes rfl).1
  ·exact (h.ch i y (by omega) hy).mono k.mI k.mR
 nw u hu:=by
  rcases (k.yes rfl).2 u hu with hu|hu
  ·rcases h.nw u hu with hu|hu|hu
   ·exact .inl hu
   ·exact .inr (.inl hu)
   ·exact .inr (.inr (hu.mono k.mI k.mR))
  ·exact .inr (.inr hu)
theorem uq.fail {ops:List Int} {j:Nat} {x:Int} {xd:oE} (h:uq I gs S st v ops j dO) (hx:x∈oe I gs S v.toNat) (k:oX I gs S dO x false xd):oX I gs S st v false xd where
 mI u hu:=k.mI u (h.mI u hu)
 mR u hu:=k.mR u (h.mR u hu)
 nI u hu:=by
  rcases k.nI u hu with hu|⟨w,a,b,c⟩
  ·exact h.nI u hu
  ·exact .inr ⟨w,a,Jt hx b,c⟩
 nR u hu:=by
  rcases k.nR u hu with hu|⟨w,a,b,c⟩
  ·exact h.nR u hu
  ·exact .inr ⟨w,a,Jt hx b,c⟩
 yes h:=by cases h
 no _:=by
  obtain ⟨w,a,b⟩:=k.no rfl
  exact ⟨w,Jt hx a,b⟩
theorem uq.fin {ops:List Int} {j:Nat} (h:uq I gs S st v ops j dO) (hj:ops.length<=j) (hm:v∉S) {g:Gate} (hg:fI I gs v.toNat=some g) (h7:g.op≠7) (ho:ops=cC g):oX I gs S st v true dO where
 mI:=h.mI
 mR:=h.mR
 nI:=h.nI
 nR:=h.nR
 yes _:=⟨.inr ⟨hm,.inr h.vi⟩,λu hu=>by
  rcases h.nw u hu with hu|rfl|hu
  ·exact .inl hu
  ·refine .inr ⟨⟨g,hg,h7⟩,λx hx=>?_⟩
   obtain ⟨-,g',kq,-,hx⟩:=qk.1 hx
   rw [hg] at kq;cases kq
   obtain ⟨i,hi⟩:=nG hx
   rw [<-ho] at hi
   exact h.ch i x (by have:=(bt.1 hi).1;omega) hi
  ·exact .inr hu⟩
 no h:=by cases h
end
structure Og (I:Nat) (gs:List Gate) (S:List Int) (root:Int) (st:oE):Prop where
 ins:∀u:Int,(st.ins u).isSome=true↔2<=u/\gM I gs S root.toNat u.toNat/\u∉S
 rch:∀u:Int,(st.rch u).isSome=true↔0<=u/\gM I gs S root.toNat u.toNat/\u∈S
 zw:∀w:Nat,gM I gs S root.toNat w->qw I gs S w=true
theorem Og.of {I:Nat} {gs:List Gate} (G:ca I gs) {S:List Int} {root:Int} (hr:2<=root) {st:oE} (h:oX I gs S ⟨λ_=>none,λ_=>none⟩ root true st):Og I gs S root st:=by
 obtain ⟨hc,hn⟩:=h.yes rfl
 have hd:∀u,(st.ins u).isSome=true->Gy I gs S st u:=λu hu=>(hn u hu).resolve_left (by simp)
 have UI:∀w:Nat,gM I gs S root.toNat w->Ej S st w:=λw hw=>by
  induction hw with
  | base e=>rw [e,Int.toNat_of_nonneg (by omega)];exact hc
  | @step u x _ hx ih =>
   have lS:=Bb G hx
   have hum:=(qk.1 hx).1
   obtain ⟨-,g,hg,-⟩:=qk.1 hx
   obtain ⟨i,rfl,-⟩:=lL.1 hg
   rcases ih with ⟨a,_⟩|⟨_,a|a⟩
   ·exact absurd a hum
   ·omega
   ·rw [Int.toNat_of_nonneg lS.1]
    exact (hd _ a).ch x (by rw [jQ];exact hx)
 refine ⟨λu=>⟨λhu=>?_,λ⟨h2,hu,hm⟩=>?_⟩,λu=>⟨λhu=>?_,λ⟨h0,hu,hm⟩=>?_⟩,λw hw=>?_⟩
 ·rcases h.nI u hu with hu|⟨w,rfl,a,b,c⟩
  ·simp at hu
  ·exact ⟨c,by rw [jQ];exact a,b⟩
 ·have:=UI _ hu
  rw [Int.toNat_of_nonneg (by omega)] at this
  rcases this with ⟨a,_⟩|⟨_,a|a⟩
  ·exact absurd a hm
  ·omega
  ·exact a
 ·rcases h.nR u hu with hu|⟨w,rfl,a,b⟩
  ·simp at hu
  ·exact ⟨by omega,by rw [jQ];exact a,b⟩
 ·have:=UI _ hu
  rw [Int.toNat_of_nonneg h0] at this
  rcases this with ⟨_,a⟩|⟨a,_⟩
  ·exact a
  ·exact absurd hm a
 ·refine uZ.2 ?_
  rcases UI w hw with ⟨a,_⟩|⟨_,a|a⟩
  ·exact .inl a
  ·exact .inr (.inl (by omega))
  ·have:=(hd _ a).gate
   rw [jQ] at this
   exact .inr (.inr this)
theorem alr {I:Nat} {gs:List Gate} (G:ca I gs) {S:List Int} {root:Int} {w:Nat} (hw:gM I gs S root.toNat w) (hg:qw I gs S w=false):eC I gs root S=none:=by
 unfold eC
 split
 ·simp only
  rw [if_neg]
  simp only [cQ,not_and]
  intro h
  have:=jo.1 h w (mX.2 (by have:=gM.le G hw;omega))
  rw [(wg G).2 hw,hg] at this
  cases this
 ·rfl
theorem akp {I:Nat} {gs:List Gate} (G:ca I gs) {S:List Int} {root x:Int} (hx:x∈S) (hn:¬gM I gs S root.toNat x.toNat):eC I gs root S=none:=by
 unfold eC
 split
 ·simp only
  rw [if_neg]
  simp only [cQ,not_and]
  intro _ h
  exact hn ((wg G).1 (jo.1 h x hx))
 ·rfl
theorem aiU {I:Nat} {gs:List Gate} {S:List Int} {root:Int} (h:sM (2+I+gs.length) root S=false):eC I gs root S=none:=by
 unfold eC;rw [h];rfl
theorem akq {I:Nat} {gs:List Gate} (G:ca I gs) {S:List Int} {root:Int} {st:oE} (hl:sM (2+I+gs.length) root S=true) (h:Og I gs S root st) (ha:∀x∈S,gM I gs S root.toNat x.toNat):∃l,eC I gs root S=some l/\dM l/\∀u:Int,u∈l↔(st.ins u).isSome=true:=by
 have hs:∃l,eC I gs root S=some l:=by
  unfold eC
  rw [if_pos hl]
  simp only
  rw [if_pos]
  ·exact ⟨_,rfl⟩
  simp only [cQ,jo]
  refine ⟨λw _=>?_,λx hx=>(wg G).2 (ha x hx)⟩
  cases hq:(Dx I gs root.toNat S).getD w false with
  | false=>rfl
  | true=>rw [h.zw w ((wg G).1 hq)];rfl
 obtain ⟨l,hl⟩:=hs
 have hm:=AK G hl
 exact ⟨l,hl,hm.1,λu=>(hm.2 u).trans (h.ins u).symm⟩
end Go.Proofs.Pk
