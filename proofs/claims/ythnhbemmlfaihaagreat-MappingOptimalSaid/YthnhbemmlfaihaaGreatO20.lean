import Derived.Test.YthnhbemmlfaihaaGreatO13
import Derived.Test.YthnhbemmlfaihaaGreatO14
set_option linter.unusedVariables false
set_option linter.unusedSimpArgs false
set_option maxRecDepth 10000
set_option maxHeartbeats 64000000
namespace Go.Proofs.Pk
open Go Go.Vc
def vB (j:Nat):Int:=([0xaaaa,0xcccc,0xf0f0,0xff00]:List Int).getD j 0
def rj (a b:Int):Int:=gg .and .i64 a b
def A9 (a b:Int):Int:=gg .or .i64 a b
def CZ (a b:Int):Int:=gg .xor .i64 a b
def combineM (op a b c:Int):Int:=if op=1 then CZ (-1) a else if op=2 then rj a b else if op=3 then A9 a b else if op=4 then CZ a b else
 if op=5 then A9 (rj a b) (rj (CZ (-1) a) c) else A9 (A9 (rj a b) (rj a c)) (rj b c)
def E5 (I:Nat) (gs:List Gate) (S:List Int) (f:Nat->Int) (v:Nat):Int:=match S.findIdx? (λx=>decide (x=(v:Int))) with
 | some j=>vB j
 | none=>if v=1 then -1 else match fy I gs v with
  | some g=>combineM g.op (f g.a.toNat) (f g.b.toNat) (f g.c.toNat)
  | none=>0
def As (I:Nat) (gs:List Gate) (S:List Int):Nat->List Int
 | 0=>[]
 | n+1=>let L:=As I gs S n;L++[E5 I gs S (λu=>L.getD u 0) n]
def iz (I:Nat) (gs:List Gate) (S:List Int) (v:Nat):Int:=(As I gs S (v+1)).getD v 0
theorem La (I:Nat) (gs:List Gate) (S:List Int):∀n,(As I gs S n).length=n
 | 0=>rfl
 | n+1=>by show (As I gs S n++[_]).length=_;rw [List.length_append,La I gs S n];rfl
theorem Lh {I:Nat} {gs:List Gate} {S:List Int}:∀{n v:Nat},v < n->(As I gs S n).getD v 0=iz I gs S v
 | 0,v,h=>by omega
 | n+1,v,h=>by
  by_cases e:v=n
  ·subst e;rfl
  ·rw [<-Lh (n:=n) (show v < n by omega)]
   show (As I gs S n++[_]).getD v 0=_
   rw [List.getD_eq_getElem?_getD,ka (by rw [La];omega),<-List.getD_eq_getElem?_getD]
theorem Ls (I:Nat) (gs:List Gate) (S:List Int) (v:Nat):iz I gs S v=E5 I gs S (λu=>(As I gs S v).getD u 0) v:=by
 show (As I gs S v++[_]).getD v 0=_
 rw [List.getD_eq_getElem?_getD,qi (by rw [La];omega),La,zB]
 rfl
theorem Xv {I:Nat} {gs:List Gate} (G:cb I gs) {S:List Int} {v:Nat} (hS:(v:Int)∉S) {g:Gate} (hg:fy I gs v=some g) :
  iz I gs S v=combineM g.op (iz I gs S g.a.toNat) (iz I gs S g.b.toNat) (iz I gs S g.c.toNat):=by
 obtain ⟨i,rfl,iB⟩:=lB.1 hg
 have k:=G.aY i g iB
 have h1:S.findIdx? (λx=>decide (x=((2+I+i:Nat):Int)))=none:=by
  rw [zM]
  intro x hx
  simp only [decide_eq_false_iff_not]
  rintro rfl
  exact hS hx
 rw [Ls]
 unfold E5
 rw [h1]
 simp only [hg]
 rw [if_neg (by omega),Lh (by have:=k.a;omega),Lh (by have:=k.b;omega),Lh (by have:=k.c;omega)]
def Ai (I:Nat) (gs:List Gate) (root:Int) (S:List Int):Int:=rj (iz I gs S root.toNat) (2^(2^S.length) - 1)
def nj (I:Nat) (gs:List Gate) (root:Int) (S:List Int):Int × Int:=match eK I gs root S with
 | none=>(0,250)
 | some _=>(Ai I gs root S,0)
def oy (sig:Int->Option Int):List Int->List Int × Bool
 | []=>([],true)
 | l :: r=>match sig l with
  | none=>([],false)
  | some s=>(s :: (oy sig r).1,(oy sig r).2)
theorem GR {sig:Int->Option Int}:∀{l:List Int},(∀x∈l,∃s,sig x=some s)->oy sig l=(l.map λx=>(sig x).getD 0,true)
 | [],_=>rfl
 | x :: r,h=>by
  obtain ⟨s,hs⟩:=h x (by simp)
  simp only [oy,hs,GR (l:=r) λy hy=>h y (by simp [hy]),iG,tX]
theorem OU {sig:Int->Option Int}:∀{l:List Int},(oy sig l).2=true->∀x∈l,∃s,sig x=some s
 | [],_=>by simp
 | y :: r,h=>by
  intro x hx
  simp only [oy] at h
  cases hs:sig y with
  | none=>rw [hs] at h;cases h
  | some s =>
   rw [hs] at h
   rcases cJ.1 hx with rfl|hx
   ·exact ⟨s,hs⟩
   ·exact OU h x hx
def cellOf (I:Nat) (gs:List Gate) (root:Int) (S:List Int) (sig:Int->Option Int):Cell × Int :=
 if (
   oy sig S).2 then match fy I gs root.toNat with
  | some g=>if g.op=7 then (⟨(oy sig S).1,0,g.n⟩,if S=ca g then 0 else 260)
   else if S=[root] then (⟨(oy sig S).1,0,-1⟩,260)
   else (⟨(oy sig S).1,(nj I gs root S).1,-1⟩,if (nj I gs root S).2=0 then 0 else 260)
  | none=>(⟨(oy sig S).1,0,-1⟩,260)
 else (⟨(oy sig S).1,0,-1⟩,260)
def eu (I:Nat) (roots:List Int) (v:Int):Option Int:=if 0<=v/\v < 2+I then some v else (roots.findIdx? λx=>decide (x=v)).map λi:Nat=>2+(I:Int)+i
structure iQ where
 root:List Int
 leaves:List (List Int)
def lT (s:dW) (v:Int):List Int:=s.leaves.getD v.toNat []
def jR (I:Nat) (s:dW) (bj:List Int):List Int :=
 let N:=s.leaves.length
 let nd:=EX (λv=>if v < 2+I then [] else s.leaves.getD v []) N (yC (List.replicate N false) bj)
 ((List.range N).filter λv=>nd.getD v false&&decide (2+I<=v)).map λv:Nat=>(v:Int)
def mu (I:Nat) (gs:List Gate) (s:dW) (bj:List Int):dK × iQ :=
 let R:=jR I s bj
 let sig:=eu I R
 (⟨I,R.map λr=>(cellOf I gs r (lT s r) sig).1,bj.map λv=>(sig v).getD 0⟩,⟨R,R.map (lT s)⟩)
def mapM (I:Nat) (gs:List Gate) (bj:List Int):dK × iQ × Int:=match iO I gs with
 | none=>(⟨0,[],[]⟩,⟨[],[]⟩,2)
 | some s=>((mu I gs s bj).1,(mu I gs s bj).2,0)
def EN (x y:Cell):Bool:=decide (x.table=y.table)&&decide (x.eI=y.eI)&&decide (x.ins=y.ins)
def nP (I:Nat) (gs:List Gate) (sig:Int->Option Int):List Cell->List Int->List (List Int)->Bool
 | x :: cs,r :: rs,l :: ls=>decide ((cellOf I gs r l sig).2=0)&&EN x (cellOf I gs r l sig).1&&nP I gs sig cs rs ls
 | _,_,_=>true
def ov (N:Int):Int->List Int->Bool
 | _,[]=>true
 | last,r :: rs=>decide (last < r/\r < N)&&ov N r rs
def pK (sig:Int->Option Int):List Int->List Int->Bool
 | v :: vs,s :: ss=>decide (sig v=some s)&&pK sig vs ss
 | _,_=>true
def vE (I:Nat) (gs:List Gate) (bj:List Int) (m:dK) (c:iQ):Bool :=
 (decide (m.n=I)&&decide (c.root.length=m.cells.length)&&decide (c.leaves.length=m.cells.length)&&decide (m.bj.length=bj.length)) &&
  (ov (2+I+gs.length) (1+I) c.root&&(nP I gs (eu I c.root) m.cells c.root c.leaves&&pK (eu I c.root) bj m.bj))
abbrev lh (I:Nat) (s:dW) (v:Nat):List Int:=if v < 2+I then [] else s.leaves.getD v []
theorem Q9 {I:Nat} {gs:List Gate} (G:cb I gs) {s:dW} (h:jV I gs s) (v:Nat) (x:Int) (hx:x∈lh I s v):0<=x/\x < v:=by
 unfold lh at hx
 split at hx
 ·cases hx
 ·cases hq:s.leaves[v]? with
  | none=>rw [List.getD_eq_getElem?_getD,hq] at hx;cases hx
  | some l =>
   rw [List.getD_eq_getElem?_getD,hq,tX] at hx
   have gP:=(a7.1 hq).1
   rw [h.oD] at gP
   have e:2+I+(v - 2 - I)=v:=by omega
   have hg:=ea (l:=gs) (i:=v - 2 - I) (by omega)
   have:=h.lf (v - 2 - I) l _ (by rw [e];exact hq) hg
   split at this
   ·subst this;have:=G.ops hg x hx;omega
   ·have:=this.2.2.1 x hx;omega
theorem WC {I:Nat} {gs:List Gate} (G:cb I gs) {s:dW} (h:jV I gs s) {bj:List Int} (hd:∀d∈bj,0<=d/\d < 2+I+gs.length) (v:Nat) :
  (v:Int)∈jR I s bj↔2+I<=v/\v < 2+I+gs.length/\oK (lh I s) (λu=>∃d∈bj,d.toNat=u) v:=by
 have cv:=Q9 G h
 unfold jR
 simp only [iM]
 have h1:(EX (lh I s) s.leaves.length (yC (List.replicate s.leaves.length false) bj)).getD v false=true↔v < 2+I+gs.length/\oK (lh I s) (λu=>∃d∈bj,d.toNat=u) v:=by
  rw [En,PY cv _ λu hu hm=>by have:=(a7.1 hm).1;rw [K7] at this;simp at this;omega]
  rw [K7,vr,h.oD]
  refine and_congr_right λ_=>⟨λk=>k.mono λu hu=>?_,λk=>k.mono λu hu=>?_⟩
  ·rcases zJ.1 hu with hu|⟨_,hu⟩
   ·simp [sY] at hu
   ·exact .base hu
  ·obtain ⟨d,oM,rfl⟩:=hu
   refine .base (zJ.2 (.inr ⟨?_,d,oM,rfl⟩))
   have:=hd d oM
   simp;omega
 constructor
 ·rintro ⟨u,hu,e⟩
  have:u=v:=by omega
  subst this
  obtain ⟨_,hu⟩:=lP.1 hu
  simp only [cG,decide_eq_true_eq] at hu
  exact ⟨hu.2,h1.1 hu.1⟩
 ·rintro ⟨a,b⟩
  refine ⟨v,lP.2 ⟨mQ.2 (by rw [h.oD];exact b.1),?_⟩,rfl⟩
  simp only [cG,decide_eq_true_eq]
  exact ⟨h1.2 b,a⟩
theorem WD (I:Nat) (s:dW) (bj:List Int):dU (jR I s bj):=by
 unfold jR dU
 rw [qT]
 exact (BR.filter _).imp λh=>by omega
theorem WE {I:Nat} {s:dW} {bj:List Int} {r:Int} (hr:r∈jR I s bj):((r.toNat:Nat):Int)=r:=by
 unfold jR at hr
 obtain ⟨u,_,rfl⟩:=iM.1 hr
 rfl
theorem OV {I:Nat} {gs:List Gate} (G:cb I gs) {s:dW} (h:jV I gs s) {bj:List Int} (hd:∀d∈bj,0<=d/\d < 2+I+gs.length) :
  dU (jR I s bj)/\(∀r∈jR I s bj,2+(I:Int)<=r/\r < 2+I+gs.length)/\(∀d∈bj,2+(I:Int)<=d->d∈jR I s bj) /\
   (∀r∈jR I s bj,∀x∈lT s r,2+(I:Int)<=x->x∈jR I s bj)/\∀r∈jR I s bj,r∈bj\/∃u∈jR I s bj,r∈lT s u:=by
 have cv:=Q9 G h
 have hm:=WC G h hd
 have nat:∀r∈jR I s bj,((r.toNat:Nat):Int)=r:=λr hr=>WE hr
 refine ⟨WD I s bj,λr hr=>?_,λd oM h2=>?_,λr hr x hx h2=>?_,λr hr=>?_⟩
 ·have e:=nat r hr
  rw [<-e] at hr
  have:=(hm _).1 hr
  omega
 ·have hb:=hd d oM
  have e:((d.toNat:Nat):Int)=d:=Int.toNat_of_nonneg hb.1
  rw [<-e]
  exact (hm _).2 ⟨by omega,by omega,.base ⟨d,oM,rfl⟩⟩
 ·have e:=nat r hr
  rw [<-e] at hr
  have k:=(hm _).1 hr
  have nt:x∈lh I s r.toNat:=by unfold lh;rw [if_neg (by omega)];exact hx
  have:=cv _ x nt
  have e':((x.toNat:Nat):Int)=x:=Int.toNat_of_nonneg this.1
  rw [<-e']
  exact (hm _).2 ⟨by omega,by omega,.step k.2.2 nt⟩
 ·have e:=nat r hr
  rw [<-e] at hr
  obtain ⟨k1,k2,k3⟩:=(hm _).1 hr
  generalize hq:r.toNat=q at *
  cases k3 with
  | base hb =>
   obtain ⟨d,oM,he⟩:=hb
   have:=hd d oM
   left
   rw [show r=d by omega]
   exact oM
  | step hu hx =>
   rename_i u x
   right
   have nt:=cv _ _ hx
   unfold lh at hx
   split at hx
   ·cases hx
   ·rename_i Tm
    refine ⟨(u:Int),(hm u).2 ⟨by omega,?_,hu⟩,?_⟩
    ·cases hq:s.leaves[u]? with
     | none=>rw [List.getD_eq_getElem?_getD,hq] at hx;cases hx
     | some l=>have:=(a7.1 hq).1;rw [h.oD] at this;exact this
    ·unfold lT
     rw [show r=x by omega]
     simpa using hx
structure n8 where
 ins:Int->Option Unit
 rch:Int->Option Unit
def AI (f:Int->Option Unit) (v:Int):Int->Option Unit:=λj=>if j=v then some () else f j
theorem BW {f:Int->Option Unit} {v u:Int}:(AI f v u).isSome=true↔u=v\/(f u).isSome=true:=by
 unfold AI
 by_cases h:u=v
 ·simp [h]
 ·simp [h]
def C0 (S:List Int) (st:n8) (x:Int):Prop:=(x∈S/\(st.rch x).isSome=true)\/(x∉S/\(x < 2\/(st.ins x).isSome=true))
theorem C0.mono {S:List Int} {st dH:n8} (h1:∀u,(st.ins u).isSome=true->(dH.ins u).isSome=true) (h2:∀u,(st.rch u).isSome=true->(dH.rch u).isSome=true) {x:Int} (h:C0 S st x):C0 S dH x:=by
 rcases h with ⟨a,b⟩|⟨a,b|b⟩
 ·exact .inl ⟨a,h2 _ b⟩
 ·exact .inr ⟨a,.inl b⟩
 ·exact .inr ⟨a,.inr (h1 _ b)⟩
structure E6 (I:Nat) (gs:List Gate) (S:List Int) (st:n8) (u:Int):Prop where
 gate:∃g,fy I gs u.toNat=some g/\g.op≠7
 ch:∀x∈nZ I gs S u.toNat,C0 S st x
theorem E6.mono {I:Nat} {gs:List Gate} {S:List Int} {st dH:n8} (h1:∀u,(st.ins u).isSome=true->(dH.ins u).isSome=true) (h2:∀u,(st.rch u).isSome=true->(dH.rch u).isSome=true) {u:Int} (h:E6 I gs S st u):E6 I gs S dH u :=
 ⟨h.gate,λx hx=>(h.ch x hx).mono h1 h2⟩
structure oz (I:Nat) (gs:List Gate) (S:List Int) (st:n8) (v:Int) (res:Bool) (dH:n8):Prop where
 mI:∀u,(st.ins u).isSome=true->(dH.ins u).isSome=true
 mR:∀u,(st.rch u).isSome=true->(dH.rch u).isSome=true
 nI:∀u,(dH.ins u).isSome=true->(st.ins u).isSome=true\/∃w:Nat,u=w/\gG I gs S v.toNat w/\u∉S/\2<=u
 nR:∀u,(dH.rch u).isSome=true->(st.rch u).isSome=true\/∃w:Nat,u=w/\gG I gs S v.toNat w/\u∈S
 yes:res=true->C0 S dH v/\∀u,(dH.ins u).isSome=true->(st.ins u).isSome=true\/E6 I gs S dH u
 no:res=false->∃w:Nat,gG I gs S v.toNat w/\pR I gs S w=false
structure tl (I:Nat) (gs:List Gate) (S:List Int) (st:n8) (v:Int) (ops:List Int) (j:Nat) (dH:n8):Prop where
 le:j<=ops.length
 mI:∀u,(st.ins u).isSome=true->(dH.ins u).isSome=true
 mR:∀u,(st.rch u).isSome=true->(dH.rch u).isSome=true
 nI:∀u,(dH.ins u).isSome=true->(st.ins u).isSome=true\/∃w:Nat,u=w/\gG I gs S v.toNat w/\u∉S/\2<=u
 nR:∀u,(dH.rch u).isSome=true->(st.rch u).isSome=true\/∃w:Nat,u=w/\gG I gs S v.toNat w/\u∈S
 vi:(dH.ins v).isSome=true
 ch:∀i x,i < j->ops[i]?=some x->C0 S dH x
 nw:∀u,(dH.ins u).isSome=true->(st.ins u).isSome=true\/u=v\/E6 I gs S dH u
section
variable {I:Nat} {gs:List Gate} {S:List Int} {st dH:n8} {v:Int}
theorem oz.leaf (hv:0<=v) (hm:v∈S):oz I gs S st v true ⟨st.ins,AI st.rch v⟩ where
 mI _ h:=h
 mR _ h:=BW.2 (.inr h)
 nI _ h:=.inl h
 nR u h:=by
  rcases BW.1 h with rfl|h
  ·exact .inr ⟨u.toNat,by omega,.base rfl,hm⟩
  ·exact .inl h
 yes _:=⟨.inl ⟨hm,BW.2 (.inl rfl)⟩,λu h=>.inl h⟩
 no h:=by cases h
theorem oz.known (hm:v∉S) (h:v < 2\/(st.ins v).isSome=true):oz I gs S st v true st where
 mI _ h:=h
 mR _ h:=h
 nI _ h:=.inl h
 nR _ h:=.inl h
 yes _:=⟨.inr ⟨hm,h⟩,λu h=>.inl h⟩
 no h:=by cases h
theorem ajf {w:Nat} (h1:(w:Int)∉S) (h2:2<=w) (h3:∀g,fy I gs w=some g->g.op=7):pR I gs S w=false:=by
 cases h:pR I gs S w with
 | false=>rfl
 | true =>
  rcases vp.1 h with h|h|⟨g,hg,h7⟩
  ·exact absurd h h1
  ·omega
  ·exact absurd (h3 g hg) h7
theorem oz.bad (hv:2<=v) (hm:v∉S) (h:∀g,fy I gs v.toNat=some g->g.op=7):oz I gs S st v false st where
 mI _ h:=h
 mR _ h:=h
 nI _ h:=.inl h
 nR _ h:=.inl h
 yes h:=by cases h
 no _:=⟨v.toNat,.base rfl,ajf (by rw [Int.toNat_of_nonneg (by omega)];exact hm) (by omega) h⟩
theorem tl.start (hv:2<=v) (hm:v∉S) (ops:List Int):tl I gs S st v ops 0 ⟨AI st.ins v,st.rch⟩ where
 le:=cg _
 mI _ h:=BW.2 (.inr h)
 mR _ h:=h
 nI u h:=by
  rcases BW.1 h with rfl|h
  ·exact .inr ⟨u.toNat,by omega,.base rfl,hm,hv⟩
  ·exact .inl h
 nR _ h:=.inl h
 vi:=BW.2 (.inl rfl)
 ch i x h:=by omega
 nw u h:=by
  rcases BW.1 h with rfl|h
  ·exact .inr (.inl rfl)
  ·exact .inl h
theorem HD {x:Int} (hx:x∈nZ I gs S v.toNat) {w:Nat} (h:gG I gs S x.toNat w):gG I gs S v.toNat w :=
 h.mono λu hu=>by subst hu;exact .step (.base rfl) hx
theorem tl.step {ops:List Int} {j:Nat} {x:Int} {wy:n8} (h:tl I gs S st v ops j dH) (hj:ops[j]?=some x) (hx:x∈nZ I gs S v.toNat) (k:oz I gs S dH x true wy):tl I gs S st v ops (j+1) wy where
 le:=(a7.1 hj).1
 mI u hu:=k.mI u (h.mI u hu)
 mR u hu:=k.mR u (h.mR u hu)
 nI u hu:=by
  rcases k.nI u hu with hu|⟨w,a,b,c⟩
  ·exact h.nI u hu
  ·exact .inr ⟨w,a,HD hx b,c⟩
 nR u hu:=by
  rcases k.nR u hu with hu|⟨w,a,b,c⟩
  ·exact h.nR u hu
  ·exact .inr ⟨w,a,HD hx b,c⟩
 vi:=k.mI v h.vi
 ch i y hi hy:=by
  by_cases e:i=j
  ·subst e;rw [hj] at hy;cases hy;exact (k.yes rfl).1
  ·exact (h.ch i y (by omega) hy).mono k.mI k.mR
 nw u hu:=by
  rcases (k.yes rfl).2 u hu with hu|hu
  ·rcases h.nw u hu with hu|hu|hu
   ·exact .inl hu
   ·exact .inr (.inl hu)
   ·exact .inr (.inr (hu.mono k.mI k.mR))
  ·exact .inr (.inr hu)
theorem tl.fail {ops:List Int} {j:Nat} {x:Int} {wy:n8} (h:tl I gs S st v ops j dH) (hx:x∈nZ I gs S v.toNat) (k:oz I gs S dH x false wy):oz I gs S st v false wy where
 mI u hu:=k.mI u (h.mI u hu)
 mR u hu:=k.mR u (h.mR u hu)
 nI u hu:=by
  rcases k.nI u hu with hu|⟨w,a,b,c⟩
  ·exact h.nI u hu
  ·exact .inr ⟨w,a,HD hx b,c⟩
 nR u hu:=by
  rcases k.nR u hu with hu|⟨w,a,b,c⟩
  ·exact h.nR u hu
  ·exact .inr ⟨w,a,HD hx b,c⟩
 yes h:=by cases h
 no _:=by
  obtain ⟨w,a,b⟩:=k.no rfl
  exact ⟨w,HD hx a,b⟩
theorem tl.fin {ops:List Int} {j:Nat} (h:tl I gs S st v ops j dH) (hj:ops.length<=j) (hm:v∉S) {g:Gate} (hg:fy I gs v.toNat=some g) (h7:g.op≠7) (ho:ops=ca g):oz I gs S st v true dH where
 mI:=h.mI
 mR:=h.mR
 nI:=h.nI
 nR:=h.nR
 yes _:=⟨.inr ⟨hm,.inr h.vi⟩,λu hu=>by
  rcases h.nw u hu with hu|rfl|hu
  ·exact .inl hu
  ·refine .inr ⟨⟨g,hg,h7⟩,λx hx=>?_⟩
   obtain ⟨-,g',j2,-,hx⟩:=qp.1 hx
   rw [hg] at j2;cases j2
   obtain ⟨i,hi⟩:=lN hx
   rw [<-ho] at hi
   exact h.ch i x (by have:=(a7.1 hi).1;omega) hi
  ·exact .inr hu⟩
 no h:=by cases h
end
structure Mv (I:Nat) (gs:List Gate) (S:List Int) (root:Int) (st:n8):Prop where
 ins:∀u:Int,(st.ins u).isSome=true↔2<=u/\gG I gs S root.toNat u.toNat/\u∉S
 rch:∀u:Int,(st.rch u).isSome=true↔0<=u/\gG I gs S root.toNat u.toNat/\u∈S
 CW:∀w:Nat,gG I gs S root.toNat w->pR I gs S w=true
theorem Mv.of {I:Nat} {gs:List Gate} (G:cb I gs) {S:List Int} {root:Int} (hr:2<=root) {st:n8} (h:oz I gs S ⟨λ_=>none,λ_=>none⟩ root true st):Mv I gs S root st:=by
 obtain ⟨hc,hn⟩:=h.yes rfl
 have hd:∀u,(st.ins u).isSome=true->E6 I gs S st u:=λu hu=>(hn u hu).resolve_left (by simp)
 have SH:∀w:Nat,gG I gs S root.toNat w->C0 S st w:=λw hw=>by
  induction hw with
  | base e=>rw [e,Int.toNat_of_nonneg (by omega)];exact hc
  | @step u x _ hx ih =>
   have kE:=Ci G hx
   have hum:=(qp.1 hx).1
   obtain ⟨-,g,hg,-⟩:=qp.1 hx
   obtain ⟨i,rfl,-⟩:=lB.1 hg
   rcases ih with ⟨a,_⟩|⟨_,a|a⟩
   ·exact absurd a hum
   ·omega
   ·rw [Int.toNat_of_nonneg kE.1]
    exact (hd _ a).ch x (by rw [ke];exact hx)
 refine ⟨λu=>⟨λhu=>?_,λ⟨h2,hu,hm⟩=>?_⟩,λu=>⟨λhu=>?_,λ⟨h0,hu,hm⟩=>?_⟩,λw hw=>?_⟩
 ·rcases h.nI u hu with hu|⟨w,rfl,a,b,c⟩
  ·simp at hu
  ·exact ⟨c,by rw [ke];exact a,b⟩
 ·have:=SH _ hu
  rw [Int.toNat_of_nonneg (by omega)] at this
  rcases this with ⟨a,_⟩|⟨_,a|a⟩
  ·exact absurd a hm
  ·omega
  ·exact a
 ·rcases h.nR u hu with hu|⟨w,rfl,a,b⟩
  ·simp at hu
  ·exact ⟨by omega,by rw [ke];exact a,b⟩
 ·have:=SH _ hu
  rw [Int.toNat_of_nonneg h0] at this
  rcases this with ⟨_,a⟩|⟨a,_⟩
  ·exact a
  ·exact absurd hm a
 ·refine vp.2 ?_
  rcases SH w hw with ⟨a,_⟩|⟨_,a|a⟩
  ·exact .inl a
  ·exact .inr (.inl (by omega))
  ·have:=(hd _ a).gate
   rw [ke] at this
   exact .inr (.inr this)
theorem ajg {I:Nat} {gs:List Gate} (G:cb I gs) {S:List Int} {root:Int} {w:Nat} (hw:gG I gs S root.toNat w) (hg:pR I gs S w=false):eK I gs root S=none:=by
 unfold eK
 split
 ·simp only
  rw [if_neg]
  simp only [cG,not_and]
  intro h
  have:=gM.1 h w (mQ.2 (by have:=gG.le G hw;omega))
  rw [(vo G).2 hw,hg] at this
  cases this
 ·rfl
theorem ah8 {I:Nat} {gs:List Gate} (G:cb I gs) {S:List Int} {root x:Int} (hx:x∈S) (hn:¬gG I gs S root.toNat x.toNat):eK I gs root S=none:=by
 unfold eK
 split
 ·simp only
  rw [if_neg]
  simp only [cG,not_and]
  intro _ h
  exact hn ((vo G).1 (gM.1 h x hx))
 ·rfl
theorem agx {I:Nat} {gs:List Gate} {S:List Int} {root:Int} (h:rU (2+I+gs.length) root S=false):eK I gs root S=none:=by
 unfold eK;rw [h];rfl
theorem ah9 {I:Nat} {gs:List Gate} (G:cb I gs) {S:List Int} {root:Int} {st:n8} (hl:rU (2+I+gs.length) root S=true) (h:Mv I gs S root st) (ha:∀x∈S,gG I gs S root.toNat x.toNat):∃l,eK I gs root S=some l/\dU l/\∀u:Int,u∈l↔(st.ins u).isSome=true:=by
 have hs:∃l,eK I gs root S=some l:=by
  unfold eK
  rw [if_pos hl]
  simp only
  rw [if_pos]
  ·exact ⟨_,rfl⟩
  simp only [cG,gM]
  refine ⟨λw _=>?_,λx hx=>(vo G).2 (ha x hx)⟩
  cases hq:(Ch I gs root.toNat S).getD w false with
  | false=>rfl
  | true=>rw [h.CW w ((vo G).1 hq)];rfl
 obtain ⟨l,hl⟩:=hs
 have hm:=zK G hl
 exact ⟨l,hl,hm.1,λu=>(hm.2 u).trans (h.ins u).symm⟩
def tf:TypeId->Option TI
 | 180=>some (ti .other 1 8 .nilFunc)
 | 183=>some (ti .other 1 8 .nilFunc)
 | 187=>some (ti .other 1 8 .nilFunc)
 | 194=>some (ti .other 1 8 .nilFunc)
 | 195=>some (ti .other 1 8 .nilFunc)
 | 200=>some (ti .other 1 8 .nilFunc)
 | 268=>some (ti .other 1 8 .nilFunc)
 | 293=>some (ti (.ptr 298) 1 8 (.pointer none))
 | 299=>some (ti .other 1 8 .nilFunc)
 | 303=>some (ti .other 1 8 .nilFunc)
 | 305=>some (ti .other 1 8 .nilFunc)
 | 310=>some (ti .other 1 8 .nilFunc)
 | 313=>some (ti .other 1 8 .nilFunc)
 | 319=>some (ti (.ptr 199) 1 8 (.pointer none))
 | 360=>some (ti .other 1 8 .nilFunc)
 | 406=>some (ti .other 1 8 .nilFunc)
 | 414=>some (ti .other 1 8 .nilFunc)
 | _=>none
theorem anN:∀t i,tf t=some i->my Tryz.prog t i:=by
 intro t i h
 unfold tf at h
 split at h
 all_goals cases h
 all_goals exact T5 rfl rfl (by kernel_rfl) (by kernel_rfl)
def t2 (t:TypeId):Option TI:=match tt t with
 | some i=>some i
 | none=>tf t
theorem abv:∀t i,t2 t=some i->my Tryz.prog t i:=by
 intro t i h
 unfold t2 at h
 split at h
 ·rename_i j hj
  cases h
  exact abk t _ hj
 ·exact anN t i h
theorem alM (n m:Nat) (X:Ctx) (h:X.tt=t2) (t:TypeId) (E:iA) (he:el n m t=some E):ET Tryz.prog X t E:=Q2 (λt i h=>by unfold t2;rw [h]) n m X h t E he
@[reducible] def fX (n m:Nat) (fs:List (Nat × Func)) (sp:List (Nat × Vc.Spec)) (io lp cut row emp:List Nat:=[]):Ctx:=NM t2 (el n m) fs sp io lp cut row emp
theorem ga (n m:Nat) {fs:List (Nat × Func)} {sp:List (Nat × Vc.Spec)} {io lp cut row emp:List Nat} (hf:xw (λf fn=>lD (PP ()) f fn/\nO fn=true) fs) (hs:xw (λf S=>dt (PP ()) f S) sp):CB PP (fX n m fs sp io lp cut row emp):=RD abv (alM n m) mixed hf hs
def tm:TypeId->Option TI
 | 320=>some (ti (.ptr 324) 1 8 (.pointer none))
 | 324=>some (ti (.st [(48,0,4),(35,4,1),(113,5,1),(36,6,1)]) 7 168 (.agg #[N0,N0,N0,N0,N0,N0,N0]))
 | 383=>some (ti (.arr 4 3) 4 32 (.agg #[I0,I0,I0,I0]))
 | 203=>some (ti (.arr 5 5) 5 5 (.agg #[Y0,Y0,Y0,Y0,Y0]))
 | 204=>some (ti (.arr 4 5) 4 4 (.agg #[Y0,Y0,Y0,Y0]))
 | 82=>some (tS 203)
 | 83=>some (tS 204)
 | 85=>some (ti (.st [(22,0,1),(82,1,1),(83,2,1)]) 3 72 (.agg #[N0,N0,N0]))
 | _=>none
theorem anO:∀t i,tm t=some i->my Tryz.prog t i:=by
 intro t i h
 unfold tm at h
 split at h
 all_goals cases h
 all_goals exact T5 rfl rfl (by kernel_rfl) (by kernel_rfl)
def t3 (t:TypeId):Option TI:=match t2 t with
 | some i=>some i
 | none=>tm t
theorem anP:∀t i,t3 t=some i->my Tryz.prog t i:=by
 intro t i h
 unfold t3 at h
 split at h
 ·rename_i j hj
  cases h
  exact abv t _ hj
 ·exact anO t i h
structure B5 where
 a:Int
 b:Int
 c:Int
 d:Int
 e:Int
structure B4 where
 a:Int
 b:Int
 c:Int
 d:Int
def xE (x:B5):List SV:=[.i .u8 λ_=>x.a,.i .u8 λ_=>x.b,.i .u8 λ_=>x.c,.i .u8 λ_=>x.d,.i .u8 λ_=>x.e]
def xF (x:B4):List SV:=[.i .u8 λ_=>x.a,.i .u8 λ_=>x.b,.i .u8 λ_=>x.c,.i .u8 λ_=>x.d]
theorem LY (x:B5):cN (xE x)/\(xE x).all SV.one=true:=⟨⟨trivial,trivial,trivial,trivial,trivial,trivial⟩,rfl⟩
theorem LZ (x:B4):cN (xF x)/\(xF x).all SV.one=true:=⟨⟨trivial,trivial,trivial,trivial,trivial⟩,rfl⟩
def abw:iA:=⟨B5,xE,⟨0,0,0,0,0⟩⟩
def abx:iA:=⟨B4,xF,⟨0,0,0,0⟩⟩
def Ub (n m:Nat):TypeId->Option iA
 | 203=>some abw
 | 204=>some abx
 | t=>el n m t
theorem alN (n m:Nat) (X:Ctx) (h:X.tt=t3) (t:TypeId) (E:iA) (he:Ub n m t=some E):ET Tryz.prog X t E:=by
 unfold Ub at he
 split at he
 ·cases he
  exact ⟨⟨_,by rw [h];rfl⟩,λi hi x=>by rw [h] at hi;cases hi;rfl,LY,λi hi H=>by rw [h] at hi;cases hi;simp [abw,xE,aP,rel,Value.cells]⟩
 ·cases he
  exact ⟨⟨_,by rw [h];rfl⟩,λi hi x=>by rw [h] at hi;cases hi;rfl,LZ,λi hi H=>by rw [h] at hi;cases hi;simp [abx,xF,aP,rel,Value.cells]⟩
 ·exact Q2 (λt i h=>by unfold t3 t2;rw [h]) n m X h t E he
@[reducible] def dM (n m:Nat) (fs:List (Nat × Func)) (sp:List (Nat × Vc.Spec)) (io lp cut row emp:List Nat:=[]):Ctx:=NM t3 (Ub n m) fs sp io lp cut row emp
theorem dP (n m:Nat) {fs:List (Nat × Func)} {sp:List (Nat × Vc.Spec)} {io lp cut row emp:List Nat} (hf:xw (λf fn=>lD (PP ()) f fn/\nO fn=true) fs) (hs:xw (λf S=>dt (PP ()) f S) sp):CB PP (dM n m fs sp io lp cut row emp):=RD anP (alN n m) mixed hf hs
theorem O9 {N:Int}:∀{last:Int} {R:List Int},dU R->(∀r∈R,last < r/\r < N)->ov N last R=true
 | _,[],_,_=>rfl
 | last,r :: rs,h,k=>by
  have h':=fx.1 h
  simp only [ov,cG,decide_eq_true_eq]
  exact ⟨k r (by simp),O9 h'.2 λx hx=>⟨h'.1 x hx,(k x (by simp [hx])).2⟩⟩
theorem Pa {sig:Int->Option Int}:∀{D:List Int},(∀d∈D,∃s,sig d=some s)->pK sig D (D.map λv=>(sig v).getD 0)=true
 | [],_=>rfl
 | d :: r,h=>by
  obtain ⟨s,hs⟩:=h d (by simp)
  simp only [iG,pK,cG,decide_eq_true_eq]
  exact ⟨by rw [hs];rfl,Pa λx hx=>h x (by simp [hx])⟩
theorem ag4 (x:Cell):EN x x=true:=by simp [EN]
theorem Pb {I:Nat} {gs:List Gate} {sig:Int->Option Int} {f:Int->List Int}:∀{R:List Int},(∀r∈R,(cellOf I gs r (f r) sig).2=0)->nP I gs sig (R.map λr=>(cellOf I gs r (f r) sig).1) R (R.map f)=true
 | [],_=>rfl
 | r :: rs,h=>by
  simp only [iG,nP,cG,decide_eq_true_eq]
  exact ⟨⟨h r (by simp),ag4 _⟩,Pb λx hx=>h x (by simp [hx])⟩
theorem Hi {I:Nat} {R:List Int} {v:Int} (h:(0<=v/\v < 2+I)\/v∈R):∃s,eu I R v=some s:=by
 unfold eu
 split
 ·exact ⟨_,rfl⟩
 ·rename_i hn
  rcases h with h|h
  ·exact absurd h hn
  ·cases hq:R.findIdx? (λx=>decide (x=v)) with
   | some i=>exact ⟨_,rfl⟩
   | none =>
    rw [zM] at hq
    have:=hq v h
    simp at this
theorem aia {I:Nat} {gs:List Gate} (G:cb I gs) {i:Nat} {g:Gate} (hg:gs[i]?=some g) (h7:g.op≠7) {l:List Int} (a1:dU l) (a2:l.length<=4) (a3:∀x∈l,2<=x/\x < 2+(I:Int)+i)
  (a4:kC I gs (ca g) (·∈l)) (a5:∀S:List Int,S.length<=4->kC I gs (ca g) (·∈S)->dF S l=true->dF l S=true):(eK I gs (2+(I:Int)+i) l).isSome=true:=by
 rw [BF G]
 have hr:(2+(I:Int)+i).toNat=2+I+i:=by omega
 have hi:=(a7.1 hg).1
 refine ⟨⟨by omega,by omega,a2,λx hx=>by have:=a3 x hx;omega,a1⟩,.gate hg h7 a4,?_⟩
 rw [hr]
 classical
 have hS:∀x∈l.filter (λx=>decide (gG I gs l (2+I+i) x.toNat)),x∈l:=λx hx=>(lP.1 hx).1
 have main:∀v:Int,fl I gs (·∈l) v->0<=v->gG I gs l (2+I+i) v.toNat->fl I gs (·∈l.filter λx=>decide (gG I gs l (2+I+i) x.toNat)) v:=by
  intro v h
  induction h with
  | mem h1=>exact λ_ hr=>.mem (lP.2 ⟨h1,by simpa using hr⟩)
  | const h1 h2=>exact λ_ _=>.const h1 h2
  | @gate j g' h1 h2 h3 ih =>
   intro _ hr
   by_cases hm:2+(I:Int)+j∈l
   ·exact .mem (lP.2 ⟨hm,by simpa using hr⟩)
   ·refine .gate h1 h2 λo ho=>ih o ho (G.ops h1 o ho).1 ?_
    refine .step hr (qp.2 ⟨?_,g',lB.2 ⟨j,by omega,h1⟩,h2,ho⟩)
    rw [show (((2+(I:Int)+j).toNat:Nat):Int)=2+(I:Int)+j by omega]
    exact hm
 have Il:=a5 _ (ot (D9 _ _) a2) (λo ho=>main o (a4 o ho) (G.ops hg o ho).1 (.step (.base rfl) (qp.2 ⟨λhm=>by have:=a3 _ hm;omega,g,lB.2 ⟨i,rfl,hg⟩,h7,ho⟩))) (lQ.2 hS)
 intro x hx
 have:=(lP.1 (lQ.1 Il x hx)).2
 simpa using this
theorem QK {I:Nat} {gs:List Gate} {s:dW} (h:jV I gs s) {r:Int} (h1:2+(I:Int)<=r) (h2:r < 2+I+gs.length) :
  ∃(i:Nat) (g:Gate),r=2+(I:Int)+i/\gs[i]?=some g/\s.leaves[2+I+i]?=some (lT s r):=by
 have hi:r.toNat - 2 - I < gs.length:=by omega
 refine ⟨r.toNat - 2 - I,_,by omega,ea hi,?_⟩
 unfold lT
 rw [show 2+I+(r.toNat - 2 - I)=r.toNat by omega,List.getD_eq_getElem?_getD,ea (by rw [h.oD];omega)]
 rfl
theorem ajh {I:Nat} {gs:List Gate} (G:cb I gs) {s:dW} (h:jV I gs s) {sig:Int->Option Int} {r:Int} (h1:2+(I:Int)<=r) (h2:r < 2+I+gs.length) (apA:∀x∈lT s r,∃y,sig x=some y) :
  (cellOf I gs r (lT s r) sig).2=0:=by
 obtain ⟨i,g,rfl,hg,hl⟩:=QK h h1 h2
 have hr:(2+(I:Int)+i).toNat=2+I+i:=by omega
 have uU:fy I gs (2+(I:Int)+i).toNat=some g:=by rw [hr];exact lB.2 ⟨i,rfl,hg⟩
 have k:=h.lf i _ g hl hg
 unfold cellOf
 rw [GR apA]
 simp only [if_true,uU]
 split
 ·rename_i h7
  rw [if_pos h7] at k
  simp only
  rw [if_pos k]
 ·rename_i h7
  rw [if_neg h7] at k
  obtain ⟨a1,a2,a3,a4,a5,_⟩:=k
  split
  ·rename_i e
   have:=a3 (2+(I:Int)+i) (by rw [e];simp)
   omega
  ·have hc:=aia G hg h7 a1 a2 a3 a4 a5
   unfold nj
   cases hq:eK I gs (2+(I:Int)+i) (lT s (2+(I:Int)+i)) with
   | none=>rw [hq] at hc;cases hc
   | some l=>rfl
theorem akx {I:Nat} {gs:List Gate} (G:cb I gs) {s:dW} (h:jV I gs s) {r:Int} (h1:2+(I:Int)<=r) (h2:r < 2+I+gs.length):∀x∈lT s r,0<=x/\x < r:=by
 obtain ⟨i,g,rfl,hg,hl⟩:=QK h h1 h2
 have k:=h.lf i _ g hl hg
 intro x hx
 split at k
 ·rw [k] at hx;have:=G.ops hg x hx;omega
 ·have:=k.2.2.1 x hx;omega
theorem alO {I:Nat} {gs:List Gate} (G:cb I gs) {s:dW} (h:jV I gs s) {bj:List Int} (hd:∀d∈bj,0<=d/\d < 2+I+gs.length) :
  vE I gs bj (mu I gs s bj).1 (mu I gs s bj).2=true:=by
 obtain ⟨r1,r2,r3,r4,r5⟩:=OV G h hd
 unfold vE mu
 simp only [cG,decide_eq_true_eq,jP]
 refine ⟨⟨⟨⟨trivial,trivial⟩,trivial⟩,trivial⟩,O9 r1 λr hr=>by have:=r2 r hr;omega,Pb λr hr=>?_,Pa λd oM=>?_⟩
 ·have hb:=r2 r hr
  refine ajh G h hb.1 hb.2 λx hx=>Hi ?_
  have:=akx G h hb.1 hb.2 x hx
  by_cases jB:x < 2+(I:Int)
  ·exact .inl ⟨this.1,jB⟩
  ·exact .inr (r4 r hr x hx (by omega))
 ·refine Hi ?_
  have:=hd d oM
  by_cases jB:d < 2+(I:Int)
  ·exact .inl ⟨this.1,jB⟩
  ·exact .inr (r3 d oM (by omega))

theorem zU {I:Nat} {R:List Int} (hR:dU R) (fL:∀r∈R,2+(I:Int)<=r) {v s:Int}:eu I R v=some s↔(0<=v/\v < 2+I/\s=v)\/∃i:Nat,R[i]?=some v/\s=2+I+i:=by
 unfold eu
 split
 ·rename_i h
  constructor
  ·intro e;simp at e;exact .inl ⟨h.1,h.2,e.symm⟩
  ·rintro (⟨_,_,e⟩|⟨i,hi,e⟩)
   ·rw [e]
   ·have:=fL v (cf hi);omega
 ·rename_i h
  constructor
  ·intro e
   rw [GU] at e
   obtain ⟨i,hi,rfl⟩:=e
   rw [Ep] at hi
   obtain ⟨hl,hi,_⟩:=hi
   simp at hi
   exact .inr ⟨i,by rw [ea hl,hi],rfl⟩
  ·rintro (⟨h1,h2,_⟩|⟨i,hi,rfl⟩)
   ·exact absurd ⟨h1,h2⟩ h
   ·rw [GU]
    refine ⟨i,?_,rfl⟩
    obtain ⟨hl,hi⟩:=a7.1 hi
    rw [Ep]
    refine ⟨hl,by simpa using hi,λj hj=>?_⟩
    have:=(qj.1 hR) j i (by omega) hl hj
    simp;omega
theorem Wf {N:Int}:∀{last:Int} {R:List Int},ov N last R=true->dU R/\∀r∈R,last < r/\r < N
 | _,[],_=>⟨.nil,by simp⟩
 | last,r :: rs,h=>by
  simp only [ov,cG,decide_eq_true_eq] at h
  obtain ⟨h1,h2⟩:=h
  obtain ⟨h3,h4⟩:=Wf h2
  refine ⟨fx.2 ⟨λx hx=>(h4 x hx).1,h3⟩,λx hx=>?_⟩
  rcases cJ.1 hx with rfl|hx
  ·exact h1
  ·have:=h4 x hx;omega
theorem WG {sig:Int->Option Int}:∀{D E:List Int},E.length=D.length->pK sig D E=true->E=D.map λv=>(sig v).getD 0
 | [],[],_,_=>rfl
 | [],_ :: _,h,_=>by simp at h
 | _ :: _,[],h,_=>by simp at h
 | d :: D,e :: E,h,k=>by
  simp only [pK,cG,decide_eq_true_eq] at k
  rw [iG,k.1,<-WG (by simpa using h) k.2]
  rfl
theorem VW {sig:Int->Option Int}:∀{D E:List Int},E.length=D.length->pK sig D E=true->∀d∈D,∃s,sig d=some s
 | [],_,_,_=>by simp
 | _ :: _,[],h,_=>by simp at h
 | d :: D,e :: E,h,k=>by
  simp only [pK,cG,decide_eq_true_eq] at k
  intro x hx
  rcases cJ.1 hx with rfl|hx
  ·exact ⟨e,k.1⟩
  ·exact VW (by simpa using h) k.2 x hx
theorem ahu {x y:Cell}:EN x y=true↔x=y:=by
 unfold EN
 cases x;cases y
 simp only [cG,decide_eq_true_eq,Cell.mk.injEq]
 constructor
 ·rintro ⟨⟨a,b⟩,c⟩;exact ⟨c,a,b⟩
 ·rintro ⟨a,b,c⟩;exact ⟨⟨b,c⟩,a⟩
theorem Wg {I:Nat} {gs:List Gate} {sig:Int->Option Int}:∀{C:List Cell} {R:List Int} {L:List (List Int)},nP I gs sig C R L=true->∀(j:Nat) (x:Cell) (r:Int) (l:List Int),C[j]?=some x->R[j]?=some r->L[j]?=some l ->
  (cellOf I gs r l sig).2=0/\x=(cellOf I gs r l sig).1
 | x :: C,r :: R,l :: L,h,j,x',r',l',hx,hr,hl=>by
  simp only [nP,cG,decide_eq_true_eq] at h
  cases j with
  | zero =>
   simp at hx hr hl
   subst hx;subst hr;subst hl
   exact ⟨h.1.1,ahu.1 h.1.2⟩
  | succ j=>exact Wg h.2 j x' r' l' (by simpa using hx) (by simpa using hr) (by simpa using hl)
 | [],_,_,_,j,x',r',l',hx,_,_=>by simp at hx
 | _ :: _,[],_,_,j,x',r',l',_,hr,_=>by simp at hr
 | _ :: _,_ :: _,[],_,j,x',r',l',_,_,hl=>by simp at hl
theorem ahv {I:Nat} {gs:List Gate} {r:Int} {l:List Int} {sig:Int->Option Int} (h:(cellOf I gs r l sig).2=0):(oy sig l).2=true/\(cellOf I gs r l sig).1.ins=l.map λx=>(sig x).getD 0:=by
 unfold cellOf at h ⊢
 split
 ·rename_i ha
  refine ⟨ha,?_⟩
  have:=GR (OU ha)
  cases fy I gs r.toNat with
  | none=>simp only;rw [this]
  | some g =>
   simp only
   split
   ·rw [this]
   ·split
    ·rw [this]
    ·rw [this]
 ·rename_i ha
  rw [if_neg ha] at h
  simp at h
structure Cl (I:Nat) (gs:List Gate) (bj:List Int) (m:dK) (c:iQ):Prop where
 n:m.n=I
 rl:c.root.length=m.cells.length
 ll:c.leaves.length=m.cells.length
 dl:m.bj.length=bj.length
 inc:dU c.root
 lim:∀r∈c.root,2+(I:Int)<=r/\r < 2+I+gs.length
 cell:∀(j:Nat) (x:Cell) (r:Int) (l:List Int),m.cells[j]?=some x->c.root[j]?=some r->c.leaves[j]?=some l->(cellOf I gs r l (eu I c.root)).2=0/\x=(cellOf I gs r l (eu I c.root)).1
 y9:m.bj=bj.map λv=>(eu I c.root v).getD 0
 Fs:∀d∈bj,∃s,eu I c.root d=some s
theorem Xw {I:Nat} {gs:List Gate} {bj:List Int} {m:dK} {c:iQ} (h:vE I gs bj m c=true):Cl I gs bj m c:=by
 unfold vE at h
 simp only [cG,decide_eq_true_eq] at h
 obtain ⟨⟨⟨⟨h1,h2⟩,h3⟩,h4⟩,h5,h6,h7⟩:=h
 obtain ⟨h8,h9⟩:=Wf h5
 exact ⟨h1,h2,h3,h4,h8,λr hr=>by have:=h9 r hr;omega,Wg h6,WG h4 h7,VW h4 h7⟩
def yq (n:Net):Int:=2+n.ins.length+n.aY.length
@[reducible] noncomputable def acH:Vc.Spec where
 α:=Net
 args n:=[.agg (jX n)]
 pre n:=n.ins.length<=1000/\n.aY.length<=1000
 res n:=.i .i64 (λ_=>yq n)
noncomputable def cM0 (n m:Nat):Ctx:=dM n m [] []
theorem pT (n m:Nat):CB PP (cM0 n m):=dP n m trivial trivial
theorem alP:dt (PP ()) 261 acH:=by
 refine e6 (pT 0 0) (fo Tryz.func261) (λn=>⟨mr n,trivial⟩) (λn=>trivial) ?_
 rintro ⟨ins,gs,outs,dr⟩ ⟨h1,h2⟩
 have h1:ins.length<=1000:=h1
 have h2:gs.length<=1000:=h2
 have hw:IntKind.i64.wrap (2+(ins.length:Int))=2+ins.length:=cW (by omega) (by omega)
 have hv:IntKind.i64.wrap (IntKind.i64.wrap (2+(ins.length:Int))+gs.length)=yq ⟨ins,gs,outs,dr⟩:=by rw [hw,cW (by omega) (by omega)];rfl
 refine ⟨?_⟩
 cbv
 exact ⟨by have bD:=hv;exact cd⟩
def rZ (n:Net) (v:Int):Gate × Bool:=match fy n.ins.length n.aY v.toNat with
 | some g=>if g.op=7 then (⟨0,0,0,0,0⟩,false) else (g,true)
 | none=>(⟨0,0,0,0,0⟩,false)
structure anQ where
 n:Net
 v:Int
 g:Gate
 b:Bool
@[reducible] noncomputable def SI:Vc.Spec where
 α:=anQ
 args x:=[.agg (jX x.n),.i .i64 (λ_=>x.v)]
 pre x:=x.n.ins.length<=1000/\x.n.aY.length<=1000/\0<=x.v/\x.v < yq x.n/\rZ x.n x.v=(x.g,x.b)
 res x:=.cM [.agg (kY x.g),.b (λ_=>x.b)]
theorem aaf:dt (PP ()) 243 SI:=by
 refine e6 (pT 0 0) (fo Tryz.func243) (λx=>⟨mr x.n,trivial,trivial⟩) (λx=>⟨(ui _).1,trivial,trivial⟩) ?_
 rintro ⟨⟨ins,gs,outs,dr⟩,v,⟨o,a,b,c,d⟩,B⟩ ⟨h1,h2,h3,h4,h5⟩
 have h1:ins.length<=1000:=h1
 have h2:gs.length<=1000:=h2
 have h3:0<=v:=h3
 have h4:v < 2+(ins.length:Int)+gs.length:=h4
 have hw:IntKind.i64.wrap (IntKind.i64.wrap (v - 2) - ins.length)=v - 2 - ins.length:=by rw [cW (n:=v - 2) (by omega) (by omega),cW (by omega) (by omega)]
 have dx:v < 2+(ins.length:Int)->(⟨o,a,b,c,d⟩:Gate)=⟨0,0,0,0,0⟩/\B=false:=λh=>by
  have h5:rZ ⟨ins,gs,outs,dr⟩ v=(⟨o,a,b,c,d⟩,B):=h5
  unfold rZ fy at h5;rw [if_pos (by show v.toNat < 2+ins.length;omega)] at h5;cases h5;exact ⟨rfl,rfl⟩
 have cz:∀g,2+(ins.length:Int)<=v->gs[(IntKind.i64.wrap (IntKind.i64.wrap (v - 2) - ins.length)).toNat]?=some g->(if g.op=7 then ((⟨0,0,0,0,0⟩,false):Gate × Bool) else (g,true))=(⟨o,a,b,c,d⟩,B):=λg h hg=>by
  have h5:rZ ⟨ins,gs,outs,dr⟩ v=(⟨o,a,b,c,d⟩,B):=h5
  unfold rZ fy at h5
  rw [if_neg (by show ¬v.toNat < 2+ins.length;omega)] at h5
  rw [hw,show (v - 2 - (ins.length:Int)).toNat=v.toNat - 2 - ins.length by omega] at hg
  simp only [hg] at h5
  exact h5
 clear h5
 have mH:0<=IntKind.i64.wrap (IntKind.i64.wrap (v - 2) - ins.length)->2+(ins.length:Int)<=v/\(IntKind.i64.wrap (IntKind.i64.wrap (v - 2) - ins.length)).toNat < gs.length:=λh=>by rw [hw] at h ⊢;omega
 refine ⟨?_⟩
 cbv
 refine ⟨λh=>?_,λh=>?_⟩
 ·have aO:IntKind.i64.wrap (IntKind.i64.wrap (v - 2) - ins.length) < 0:=aL
  rw [hw] at aO
  obtain ⟨e,rfl⟩:=dx (by omega)
  cases e
  cbv
  exact ⟨by exact bp⟩
 ·have aO:0<=IntKind.i64.wrap (IntKind.i64.wrap (v - 2) - ins.length):=aL
  refine (bK (mH aO).2).elim λg hg=>?_
  have ib:=cz g (mH aO).1 hg
  cbv
  refine ⟨g,⟨aO,hg⟩,?_⟩
  cbv
  refine ⟨λh=>?_,λh=>?_⟩
  ·have h7:g.op=7:=aL
   rw [if_pos h7] at ib
   cases ib
   cbv
   exact ⟨by exact bp⟩
  ·have h7:¬g.op=7:=aL
   rw [if_neg h7] at ib
   cases ib
   cbv
   refine ⟨_,⟨aO,hg⟩,?_⟩
   cbv
   exact ⟨by exact bp⟩
structure apB where
 g:Gate
 l:List Int
@[reducible] noncomputable def acI:Vc.Spec where
 α:=apB
 args x:=[.agg (kY x.g)]
 pre x:=ca x.g=x.l
 res x:=.sl 1 bC (λ_=>x.l)
theorem aky {o a b c d:Int}:(o=1->ca ⟨o,a,b,c,d⟩=[a])/\(¬o=1->o=2\/o=3\/o=4->ca ⟨o,a,b,c,d⟩=[a,b])/\(¬o=1->¬o=2->¬o=3->¬o=4->ca ⟨o,a,b,c,d⟩=[a,b,c]):=by
 refine ⟨λh=>?_,λh k=>?_,λh k1 k2 k3=>?_⟩<;>simp [ca,jt, *]
theorem alQ:dt (PP ()) 264 acI:=by
 refine e6 (pT 0 0) (fo Tryz.func264) (λx=>⟨(ui _).1,trivial⟩) (λx=>(λy=>(cP y).1)) ?_
 rintro ⟨⟨o,a,b,c,d⟩,l⟩ hx
 have hx:ca ⟨o,a,b,c,d⟩=l:=hx
 obtain ⟨q1,q2,q3⟩:=aky (o:=o) (a:=a) (b:=b) (c:=c) (d:=d)
 rw [hx] at q1 q2 q3
 clear hx
 refine ⟨?_⟩
 cbv
 refine ⟨λh=>?_,λh=>?_⟩
 ·have h1:o=1:=aL
  have e:=q1 h1
  subst e
  cbv
  exact ⟨by exact bp⟩
 have h1:¬o=1:=aL
 clear h q1
 cbv
 refine ⟨λh=>?_,λh=>?_⟩
 ·have h2:o=2:=aL
  have e:=q2 h1 (.inl h2)
  subst e
  cbv
  exact ⟨by exact bp⟩
 have h2:¬o=2:=aL
 clear h
 cbv
 refine ⟨λh=>?_,λh=>?_⟩
 ·have h2:o=3:=aL
  have e:=q2 h1 (.inr (.inl h2))
  subst e
  cbv
  exact ⟨by exact bp⟩
 have h3:¬o=3:=aL
 clear h
 cbv
 refine ⟨λh=>?_,λh=>?_⟩
 ·have h2:o=4:=aL
  have e:=q2 h1 (.inr (.inr h2))
  subst e
  cbv
  exact ⟨by exact bp⟩
 have h4:¬o=4:=aL
 have e:=q3 h1 h2 h3 h4
 subst e
 cbv
 exact ⟨by exact bp⟩
@[reducible] noncomputable def acJ:Vc.Spec where
 α:=Int
 args x:=[.i .i64 (λ_=>x)]
 pre x:=True
 res x:=.i .i64 (λ_=>((jt x:Nat):Int))
theorem alR:dt (PP ()) 240 acJ:=by
 refine e6 (pT 0 0) (fo Tryz.func240) (λx=>⟨trivial,trivial⟩) (λx=>trivial) ?_
 intro o _
 have q1:o=1->(1:Int)=((jt o:Nat):Int):=λh=>by simp [jt,h]
 have q2:¬o=1->o=2\/o=3\/o=4->(2:Int)=((jt o:Nat):Int):=λh k=>by simp [jt,h,k]
 have q3:¬o=1->¬o=2->¬o=3->¬o=4->(3:Int)=((jt o:Nat):Int):=λh k1 k2 k3=>by simp [jt, *]
 refine ⟨?_⟩
 cbv
 refine ⟨λh=>?_,λh=>?_⟩
 ·have h1:o=1:=aL
  have e:=q1 h1
  exact ⟨by exact bp⟩
 have h1:¬o=1:=aL
 clear h q1
 cbv
 refine ⟨λh=>?_,λh=>?_⟩
 ·have h2:o=2:=aL
  have e:=q2 h1 (.inl h2)
  cbv
  exact ⟨by exact bp⟩
 have h2:¬o=2:=aL
 clear h
 cbv
 refine ⟨λh=>?_,λh=>?_⟩
 ·have h2:o=3:=aL
  have e:=q2 h1 (.inr (.inl h2))
  cbv
  exact ⟨by exact bp⟩
 have h3:¬o=3:=aL
 clear h
 cbv
 refine ⟨λh=>?_,λh=>?_⟩
 ·have h2:o=4:=aL
  have e:=q2 h1 (.inr (.inr h2))
  cbv
  exact ⟨by exact bp⟩
 have h4:¬o=4:=aL
 have e:=q3 h1 h2 h3 h4
 cbv
 exact ⟨by exact bp⟩
theorem aib (o:Int):jt o<=3:=by
 unfold jt
 split
 ·omega
 ·split<;>omega
@[reducible] noncomputable def M4:Vc.Spec where
 α:=Gate
 args g:=[.agg (kY g)]
 pre g:=True
 res g:=.sl 1 bC (λ_=>ca g)
noncomputable def cM1 (n m:Nat):Ctx:=dM n m [] [(240,acJ)]
theorem anR (n m:Nat):CB PP (cM1 n m):=dP n m trivial ⟨alR,trivial⟩
theorem Rb:dt (PP ()) 186 M4:=by
 refine e6 (anR 0 0) (fo Tryz.func186) (λx=>⟨(ui _).1,trivial⟩) (λx=>(λy=>(cP y).1)) ?_
 rintro ⟨o,a,b,c,d⟩ _
 have hk:=aib o
 have hn:(0:Int)<=0/\(0:Int)<=((jt o:Nat):Int)/\((jt o:Nat):Int)<=3:=by omega
 have hl:(([a,b,c]:List Int).take (((jt o:Nat):Int)).toNat).drop (0:Int).toNat=ca ⟨o,a,b,c,d⟩:=by rw [ke];rfl
 refine ⟨?_⟩
 cbv
 refine ⟨o,⟨by exact bp,trivial⟩,?_⟩
 cbv
 refine ⟨[a,b,c],⟨⟨rfl,by exact bW,hn⟩,?_⟩⟩
 cbv
 exact ⟨by have jM:=hl;exact cd⟩
theorem lt4 {j:Nat} (h:j < 4):j=0\/j=1\/j=2\/j=3:=by omega
@[reducible] noncomputable def acK:Vc.Spec where
 α:=Nat
 args j:=[.i .i64 (λ_=>(j:Int))]
 pre j:=j < 4
 res j:=.i .i64 (λ_=>vB j)
theorem alS:dt (PP ()) 242 acK:=by
 refine e6 (pT 0 0) (fo Tryz.func242) (λx=>⟨trivial,trivial⟩) (λx=>trivial) ?_
 intro j hj
 have hj:(j:Nat) < 4:=hj
 rcases lt4 hj with rfl|rfl|rfl|rfl
 ·have e:(43690:Int)=vB 0:=rfl
  refine ⟨?_⟩
  cbv
  refine ⟨0,⟨rfl,by decide,rfl⟩,?_⟩
  cbv
  exact ⟨by exact bp⟩
 ·have e:(52428:Int)=vB 1:=rfl
  refine ⟨?_⟩
  cbv
  refine ⟨1,⟨rfl,by decide,rfl⟩,?_⟩
  cbv
  exact ⟨by exact bp⟩
 ·have e:(61680:Int)=vB 2:=rfl
  refine ⟨?_⟩
  cbv
  refine ⟨2,⟨rfl,by decide,rfl⟩,?_⟩
  cbv
  exact ⟨by exact bp⟩
 ·have e:(65280:Int)=vB 3:=rfl
  refine ⟨?_⟩
  cbv
  refine ⟨3,⟨rfl,by decide,rfl⟩,?_⟩
  cbv
  exact ⟨by exact bp⟩
structure apC where
 op:Int
 a:Int
 b:Int
 c:Int
 r:Int
@[reducible] noncomputable def acL:Vc.Spec where
 α:=apC
 args x:=[.i .i64 (λ_=>x.op),.i .i64 (λ_=>x.a),.i .i64 (λ_=>x.b),.i .i64 (λ_=>x.c)]
 pre x:=combineM x.op x.a x.b x.c=x.r
 res x:=.i .i64 (λ_=>x.r)
theorem alT:dt (PP ()) 244 acL:=by
 refine e6 (pT 0 0) (fo Tryz.func244) (λx=>⟨trivial,trivial,trivial,trivial,trivial⟩) (λx=>trivial) ?_
 rintro ⟨o,a,b,c,R⟩ hx
 have hx:combineM o a b c=R:=hx
 have q1:o=1->gg .xor .i64 (-1) a=R:=λh=>by rw [<-hx];simp [combineM,h,CZ]
 have q2:o=2->gg .and .i64 a b=R:=λh=>by rw [<-hx];simp [combineM,h,rj]
 have q3:o=3->gg .or .i64 a b=R:=λh=>by rw [<-hx];simp [combineM,h,A9]
 have q4:o=4->gg .xor .i64 a b=R:=λh=>by rw [<-hx];simp [combineM,h,CZ]
 have q5:o=5->gg .or .i64 (gg .and .i64 a b) (gg .and .i64 (gg .xor .i64 (-1) a) c)=R:=λh=>by rw [<-hx];simp [combineM,h,A9,rj,CZ]
 have q6:¬o=1->¬o=2->¬o=3->¬o=4->¬o=5->gg .or .i64 (gg .or .i64 (gg .and .i64 a b) (gg .and .i64 a c)) (gg .and .i64 b c)=R:=λk1 k2 k3 k4 k5=>by rw [<-hx];simp [combineM, *,A9,rj]
 clear hx
 refine ⟨?_⟩
 cbv
 refine ⟨λh=>?_,λh=>?_⟩
 ·have e:=q1 aL
  cbv
  exact ⟨by exact bp⟩
 have n1:¬o=1:=aL
 clear h q1
 cbv
 refine ⟨λh=>?_,λh=>?_⟩
 ·have e:=q2 aL
  cbv
  exact ⟨by exact bp⟩
 have n2:¬o=2:=aL
 clear h q2
 cbv
 refine ⟨λh=>?_,λh=>?_⟩
 ·have e:=q3 aL
  cbv
  exact ⟨by exact bp⟩
 have n3:¬o=3:=aL
 clear h q3
 cbv
 refine ⟨λh=>?_,λh=>?_⟩
 ·have e:=q4 aL
  cbv
  exact ⟨by exact bp⟩
 have n4:¬o=4:=aL
 clear h q4
 cbv
 refine ⟨λh=>?_,λh=>?_⟩
 ·have e:=q5 aL
  cbv
  exact ⟨by exact bp⟩
 have n5:¬o=5:=aL
 clear h q5
 have e:=q6 n1 n2 n3 n4 n5
 cbv
 exact ⟨by exact bp⟩
structure LV where
 l:List Int
 v:Int
def C1 (l:List Int) (v:Int):Int:=match l.findIdx? (λx=>decide (x=v)) with
 | some i=>i
 | none=>-1
theorem akz {l:List Int} {v:Int} {i:Nat} (h:∀j,j < i->∀x,l[j]?=some x->¬v=x) (hi:l[i]?=some v):(i:Int)=C1 l v:=by
 unfold C1
 obtain ⟨hl,e⟩:=a7.1 hi
 have:l.findIdx? (λx=>decide (x=v))=some i:=by
  rw [Ep]
  refine ⟨hl,by simpa using e,λj hj=>?_⟩
  have:=h j hj _ (ea (by omega))
  simp;exact λe=>this e.symm
 rw [this]
theorem akA {l:List Int} {v:Int} (h:∀j,j < l.length->∀x,l[j]?=some x->¬v=x):(-1:Int)=C1 l v:=by
 unfold C1
 have:l.findIdx? (λx=>decide (x=v))=none:=by
  rw [zM]
  intro x hx
  obtain ⟨j,hj⟩:=lN hx
  have:=h j (a7.1 hj).1 x hj
  simp;exact λe=>this e.symm
 rw [this]
theorem agy (l:List Int) (v:Int):fU 0 (C1 l v)=l.contains v:=by
 unfold C1 fU
 cases h:l.findIdx? (λx=>decide (x=v)) with
 | none =>
  rw [zM] at h
  have:v∉l:=λhm=>by have:=h v hm;simp at this
  simp [this]
 | some i =>
  rw [Ep] at h
  obtain ⟨hl,hp,_⟩:=h
  simp at hp
  have:v∈l:=hp ▸ Py hl
  simp [this]
@[reducible] noncomputable def aby:Vc.Spec where
 α:=LV
 args x:=[.sl 1 bC (λ_=>x.l),.i .i64 (λ_=>x.v)]
 pre x:=x.l.length<=1000000000000
 res x:=.i .i64 (λ_=>C1 x.l x.v)
theorem akB:dt (PP ()) 276 aby:=by
 refine e6 (pT 0 0) (fo Tryz.func276) (λa=>⟨λx=>(cP x).1,trivial,trivial⟩) (λa=>trivial) ?_
 rintro ⟨l,v⟩ hx
 have hl:l.length<=1000000000000:=hx
 refine ⟨?_⟩
 cbv
 refine Sat.cU (pT 0 0) 0 5 [] (λi:Nat=>[(6,.sl 1 bC (λ_=>l)),(7,.i .i64 (λ_=>(l.length:Int))),(8,.i .i64 λ_=>(i:Int))]) (λ_=>[]) (λi=>i<=l.length/\∀j,j < i->∀x,l[j]?=some x->¬v=x) (λi=>l.length - i) 0 (by exact aM) (by exact aM) ⟨cg _,λj h=>absurd h (qn _)⟩ ?_
 rintro i ⟨hi,dx⟩
 have hi:i<=l.length:=hi
 have h0:=n0 i
 have h1:=cX (i:=i) (by omega)
 cbv
 refine ⟨λh=>?_,λh=>?_⟩
 ·have bQ:i < l.length:=aL
  have bX:l.length - (i+1) < l.length - i:=by omega
  refine (bK bQ).elim λx hx=>?_
  cbv
  refine ⟨x,⟨h0,hx⟩,?_⟩
  cbv
  refine ⟨λh=>?_,λh=>?_⟩
  ·have e:v=x:=aL
   have hr:=akz dx (e ▸ hx)
   cbv
   exact ⟨by have bD:=hr;exact cd⟩
  ·have bO:¬v=x:=aL
   have bV:i+1<=l.length/\∀j,j < i+1->∀x,l[j]?=some x->¬v=x:=⟨bQ,λj hj y hy=>by
    by_cases l8:j=i
    ·subst l8;rw [hx] at hy;cases hy;exact bO
    ·exact dx j (by omega) y hy⟩
   cbv
   exact ⟨i+1,by exact aM,by exact aM,⟨⟨bV,bX⟩⟩⟩
 ·have cz:¬i < l.length:=by have h:l.length<=i:=aL;omega
  have hr:=akA (l:=l) (v:=v) λj hj=>dx j (by omega)
  cbv
  exact ⟨by have iC:=hr;exact cd⟩
@[reducible] noncomputable def Mw:Vc.Spec where
 α:=LV
 args x:=[.sl 1 bC (λ_=>x.l),.i .i64 (λ_=>x.v)]
 pre x:=x.l.length<=1000000000000
 res x:=.b (λ_=>x.l.contains x.v)
noncomputable def cMc (n m:Nat):Ctx:=dM n m [] [(276,aby)]
theorem anS (n m:Nat):CB PP (cMc n m):=dP n m trivial ⟨akB,trivial⟩
theorem QL:dt (PP ()) 263 Mw:=by
 refine e6 (anS 0 0) (fo Tryz.func263) (λa=>⟨λx=>(cP x).1,trivial,trivial⟩) (λa=>trivial) ?_
 rintro ⟨l,v⟩ hx
 have hl:l.length<=1000000000000:=hx
 have hr:=agy l v
 refine ⟨?_⟩
 cbv
 refine ⟨⟨l,v⟩,⟨by exact bp,hl⟩,?_⟩
 cbv
 exact ⟨by have po:=hr;exact cd⟩
structure L2 where
 a:List Int
 b:List Int
@[reducible] noncomputable def SJ:Vc.Spec where
 α:=L2
 args x:=[.sl 1 bC (λ_=>x.a),.sl 1 bC (λ_=>x.b)]
 pre x:=x.a.length<=1000000000000/\x.b.length<=1000000000000
 res x:=.b (λ_=>decide (x.a=x.b))
theorem aag:dt (PP ()) 96 SJ:=by
 refine e6 (pT 0 0) (fo Tryz.func96) (λa=>⟨λx=>(cP x).1,λx=>(cP x).1,trivial⟩) (λa=>trivial) ?_
 rintro ⟨a,b⟩ hx
 obtain ⟨ha,hb⟩:a.length<=1000000000000/\b.length<=1000000000000:=hx
 refine ⟨?_⟩
 cbv
 refine ⟨λh=>?_,λh=>?_⟩
 ·have bO:¬(a.length:Int)=b.length:=aL
  have hr:false=decide (a=b):=by rw [eq_comm,decide_eq_false_iff_not];rintro rfl;exact bO rfl
  cbv
  exact ⟨by have fH:=hr;exact cd⟩
 have gI:(a.length:Int)=b.length:=aL
 have gI:a.length=b.length:=by omega
 clear h
 cbv
 refine Sat.cU (pT 0 0) 0 5 [] (λi:Nat=>[(12,.i .i64 (λ_=>(a.length:Int))),(13,.i .i64 λ_=>(i:Int))]) (λ_=>[]) (λi=>i<=a.length/\a.take i=b.take i) (λi=>a.length - i) 0 (by exact aM) (by exact aM) ⟨cg _,by simp⟩ ?_
 rintro i ⟨hi,he⟩
 have hi:i<=a.length:=hi
 have he:a.take i=b.take i:=he
 have h0:=n0 i
 have h1:=cX (i:=i) (by omega)
 cbv
 refine ⟨λh=>?_,λh=>?_⟩
 ·have bQ:i < a.length:=aL
  have bX:a.length - (i+1) < a.length - i:=by omega
  refine (bK bQ).elim λx hx=>?_
  refine (bK (show i < b.length by omega)).elim λy hy=>?_
  cbv
  refine ⟨x,⟨h0,hx⟩,?_⟩
  cbv
  refine ⟨y,⟨h0,hy⟩,?_⟩
  cbv
  refine ⟨λh=>?_,λh=>?_⟩
  ·have bO:¬x=y:=aL
   have hr:false=decide (a=b):=by rw [eq_comm,decide_eq_false_iff_not];rintro rfl;rw [hx] at hy;cases hy;exact bO rfl
   cbv
   exact ⟨by have fH:=hr;exact cd⟩
  ·have e:x=y:=aL
   have bV:i+1<=a.length/\a.take (i+1)=b.take (i+1):=⟨bQ,by rw [kf,kf,hx,hy,he,e]⟩
   cbv
   exact ⟨i+1,by exact aM,by exact aM,⟨⟨bV,bX⟩⟩⟩
 ·have cz:a.length<=i:=aL
  have hr:true=decide (a=b):=by
   rw [eq_comm,decide_eq_true_eq]
   rw [iL (by omega),iL (by omega)] at he
   exact he
  cbv
  exact ⟨by have fH:=hr;exact cd⟩
@[reducible] noncomputable def acM:Vc.Spec where
 α:=Int
 args x:=[.i .i64 (λ_=>x)]
 pre x:=True
 res x:=.b (λ_=>false)
theorem alV:dt (PP ()) 189 acM:=by
 refine e6 (pT 0 0) (fo Tryz.func189) (λx=>⟨trivial,trivial⟩) (λx=>trivial) ?_
 intro x _
 have e:(!fk x x)=false:=by simp [fk]
 refine ⟨?_⟩
 cbv
 exact ⟨by have po:=e;exact cd⟩
def sf (a b:Int):Int:=if a < b then -1 else if b < a then 1 else 0
structure AB where
 a:Int
 b:Int
@[reducible] noncomputable def RO:Vc.Spec where
 α:=AB
 args x:=[.i .i64 (λ_=>x.a),.i .i64 (λ_=>x.b)]
 pre x:=True
 res x:=.i .i64 (λ_=>sf x.a x.b)
noncomputable def apI (n m:Nat):Ctx:=dM n m [] [(189,acM)]
theorem alW (n m:Nat):CB PP (apI n m):=dP n m trivial ⟨alV,trivial⟩
theorem Zx:dt (PP ()) 130 RO:=by
 refine e6 (alW 0 0) (fo Tryz.func130) (λx=>⟨trivial,trivial,trivial⟩) (λx=>trivial) ?_
 rintro ⟨a,b⟩ _
 have q1:a < b->(-1:Int)=sf a b:=λh=>by simp [sf,h]
 have q2:b<=a->b < a->(1:Int)=sf a b:=λk h=>by unfold sf;rw [if_neg (by omega),if_pos h]
 have q3:b<=a->a<=b->(0:Int)=sf a b:=λk h=>by unfold sf;rw [if_neg (by omega),if_neg (by omega)]
 refine ⟨?_⟩
 cbv
 refine ⟨a,⟨by exact bp,trivial⟩,?_⟩
 cbv
 refine ⟨b,⟨by exact bp,trivial⟩,?_⟩
 cbv
 refine ⟨λh=>(by have:=h.out;cases this),λh=>?_⟩
 clear h
 cbv
 refine ⟨λh=>(by have:=h.out;cases this),λh=>?_⟩
 clear h
 cbv
 refine ⟨λh=>?_,λh=>?_⟩
 ·have e:=q1 aL
  cbv
  exact ⟨by have iC:=e;exact cd⟩
 have n1:b<=a:=aL
 clear h
 cbv
 refine ⟨λh=>?_,λh=>?_⟩
 ·have e:=q2 n1 aL
  cbv
  exact ⟨by have iC:=e;exact cd⟩
 have e:=q3 n1 aL
 cbv
 exact ⟨by have iC:=e;exact cd⟩
def xG:List Int->Int
 | []=>0
 | x :: r=>if x=0 then xG r else x
theorem alX {l:List Int} {x:Int} (hx:¬x=0):∀{i:Nat},l[i]?=some x->(∀j y,j < i->l[j]?=some y->y=0)->x=xG l:=by
 induction l with
 | nil=>intro i h;simp at h
 | cons y r ih =>
  intro i h k
  unfold xG
  cases i with
  | zero=>simp at h;subst h;rw [if_neg hx]
  | succ i=>rw [if_pos (k 0 y (by omega) rfl)];exact ih (by simpa using h) λj z hj hz=>k (j+1) z (by omega) (by simpa using hz)
theorem aah:∀{l:List Int},(∀(j:Nat) (y:Int),l[j]?=some y->y=0)->(0:Int)=xG l
 | [],_=>rfl
 | x :: r,k=>by unfold xG;rw [if_pos (k 0 x rfl)];exact aah λj y hy=>k (j+1) y (by simpa using hy)
@[reducible] noncomputable def acN:Vc.Spec where
 α:=List Int
 args l:=[.sl 1 bC (λ_=>l)]
 pre l:=l.length<=1000000
 res l:=.i .i64 (λ_=>xG l)
theorem alY:dt (PP ()) 274 acN:=by
 refine e6 (pT 0 0) (fo Tryz.func274) (λa=>⟨λx=>(cP x).1,trivial⟩) (λa=>trivial) ?_
 intro l hx
 have hl:l.length<=1000000:=hx
 refine ⟨?_⟩
 cbv
 refine Sat.cU (pT 0 0) 0 5 [] (λi:Nat=>[(6,.sl 1 bC (λ_=>l)),(7,.i .i64 (λ_=>(l.length:Int))),(8,.i .i64 λ_=>(i:Int))]) (λ_=>[]) (λi=>i<=l.length/\∀j y,j < i->l[j]?=some y->y=0) (λi=>l.length - i) 0 (by exact aM) (by exact aM) ⟨cg _,λj y h=>absurd h (qn _)⟩ ?_
 rintro i ⟨hi,dx⟩
 have hi:i<=l.length:=hi
 have h0:=n0 i
 have h1:=cX (i:=i) (by omega)
 cbv
 refine ⟨λh=>?_,λh=>?_⟩
 ·have bQ:i < l.length:=aL
  have bX:l.length - (i+1) < l.length - i:=by omega
  refine (bK bQ).elim λx hx=>?_
  cbv
  refine ⟨x,⟨h0,hx⟩,?_⟩
  cbv
  refine ⟨λh=>?_,λh=>?_⟩
  ·have bO:¬x=0:=aL
   have hr:=alX bO hx dx
   cbv
   exact ⟨by have bD:=hr;exact cd⟩
  ·have e:x=0:=aL
   have bV:i+1<=l.length/\∀j y,j < i+1->l[j]?=some y->y=0:=⟨bQ,λj y hj hy=>by
    by_cases l8:j=i
    ·subst l8;rw [hx] at hy;cases hy;exact e
    ·exact dx j y (by omega) hy⟩
   cbv
   exact ⟨i+1,by exact aM,by exact aM,⟨⟨bV,bX⟩⟩⟩
 ·have cz:l.length<=i:=aL
  have hr:=aah (l:=l) λj y hy=>dx j y (by have:=(a7.1 hy).1;omega) hy
  cbv
  exact ⟨by have iC:=hr;exact cd⟩
@[reducible] noncomputable def acO:Vc.Spec where
 α:=L2
 args x:=[.sl 1 bC (λ_=>x.a),.sl 1 bC (λ_=>x.b)]
 pre x:=x.a.length<=1000000/\x.b.length<=1000000
 res x:=.i .i64 (λ_=>fT x.a x.b)
theorem aic {a b:List Int} {i:Nat} {x:Int} (hx:a[i]?=some x) (h:fT (a.drop i) (b.drop i)=fT a b):(b.length<=i->(1:Int)=fT a b)/\∀y,b[i]?=some y->(¬sf x y=0->sf x y=fT a b)/\(sf x y=0->fT (a.drop (i+1)) (b.drop (i+1))=fT a b):=by
 obtain ⟨bQ,hx⟩:=a7.1 hx
 rw [qQ bQ,hx] at h
 refine ⟨λhb=>?_,λy hy=>?_⟩
 ·rw [Eu hb] at h
  rw [<-h];rfl
 ·obtain ⟨iP,hy⟩:=a7.1 hy
  rw [qQ iP,hy] at h
  rw [<-h]
  have e:∀A B:List Int,fT (x :: A) (y :: B)=if x < y then -1 else if y < x then 1 else fT A B:=λ_ _=>rfl
  rw [e]
  unfold sf
  by_cases h1:x < y
  ·simp [h1]
  ·by_cases h2:y < x
   ·simp [h1,h2]
   ·simp [h1,h2]
theorem aji {a b:List Int} {i:Nat} (hi:a.length<=i) (j4:i<=a.length) (h:fT (a.drop i) (b.drop i)=fT a b):((a.length:Int) < b.length->(-1:Int)=fT a b)/\((b.length:Int)<=a.length->(0:Int)=fT a b):=by
 rw [Eu hi] at h
 rw [<-h]
 refine ⟨λhb=>?_,λhb=>?_⟩
 ·rw [qQ (show i < b.length by omega)];rfl
 ·rw [Eu (by omega)];rfl
noncomputable def apJ (n m:Nat):Ctx:=dM n m [] [(130,RO)]
theorem aai (n m:Nat):CB PP (apJ n m):=dP n m trivial ⟨Zx,trivial⟩
theorem alZ:dt (PP ()) 275 acO:=by
 refine e6 (aai 0 0) (fo Tryz.func275) (λa=>⟨λx=>(cP x).1,λx=>(cP x).1,trivial⟩) (λa=>trivial) ?_
 rintro ⟨a,b⟩ hx
 obtain ⟨ha,hb⟩:a.length<=1000000/\b.length<=1000000:=hx
 refine ⟨?_⟩
 cbv
 refine Sat.cU (aai 0 0) 0 5 [] (λi:Nat=>[(9,.sl 1 bC (λ_=>a)),(10,.i .i64 (λ_=>(a.length:Int))),(11,.i .i64 λ_=>(i:Int))]) (λ_=>[]) (λi=>i<=a.length/\fT (a.drop i) (b.drop i)=fT a b) (λi=>a.length - i) 0 (by exact aM) (by exact aM) ⟨cg _,by simp⟩ ?_
 rintro i ⟨hi,he⟩
 have hi:i<=a.length:=hi
 have he:fT (a.drop i) (b.drop i)=fT a b:=he
 have h0:=n0 i
 have h1:=cX (i:=i) (by omega)
 cbv
 refine ⟨λh=>?_,λh=>?_⟩
 ·have bQ:i < a.length:=aL
  have bX:a.length - (i+1) < a.length - i:=by omega
  refine (bK bQ).elim λx hx=>?_
  have C3:=aic hx he
  cbv
  refine ⟨x,⟨h0,hx⟩,?_⟩
  cbv
  refine ⟨λh=>?_,λh=>?_⟩
  ·have e:=C3.1 aL
   cbv
   exact ⟨by have iC:=e;exact cd⟩
  have iP:i < b.length:=aL
  refine (bK iP).elim λy hy=>?_
  have NB:=C3.2 y hy
  clear h
  cbv
  refine ⟨y,⟨h0,hy⟩,?_⟩
  cbv
  refine ⟨⟨x,y⟩,⟨by exact bp,trivial⟩,?_⟩
  cbv
  refine ⟨λh=>?_,λh=>?_⟩
  ·have e:=NB.1 aL
   cbv
   exact ⟨by have bD:=e;exact cd⟩
  ·have e:=NB.2 aL
   have bV:i+1<=a.length/\fT (a.drop (i+1)) (b.drop (i+1))=fT a b:=⟨bQ,e⟩
   cbv
   exact ⟨i+1,by exact aM,by exact aM,⟨⟨bV,bX⟩⟩⟩
 ·have cz:a.length<=i:=aL
  have q:=aji cz hi he
  cbv
  refine ⟨λh=>?_,λh=>?_⟩
  ·have e:=q.1 aL
   cbv
   exact ⟨by have iC:=e;exact cd⟩
  ·have e:=q.2 aL
   cbv
   exact ⟨by have iC:=e;exact cd⟩
@[reducible] noncomputable def SK:Vc.Spec where
 α:=L2
 args x:=[.sl 1 bC (λ_=>x.a),.sl 1 bC (λ_=>x.b)]
 pre x:=x.a.length<=1000000/\x.b.length<=1000000
 res x:=.i .i64 (λ_=>iN x.a x.b)
theorem akC (a b:List Int):xG [sf a.length b.length,fT a b]=iN a b:=by
 unfold xG sf iN xG
 by_cases h1:a.length < b.length
 ·rw [if_pos (by omega:(a.length:Int) < b.length),if_pos h1];rfl
 ·by_cases h2:b.length < a.length
  ·rw [if_neg (by omega:¬(a.length:Int) < b.length),if_pos (by omega:(b.length:Int) < a.length),if_neg h1,if_pos h2];rfl
  ·rw [if_neg (by omega:¬(a.length:Int) < b.length),if_neg (by omega:¬(b.length:Int) < a.length),if_neg h1,if_neg h2,if_pos rfl]
   split
   ·rename_i e;rw [e];rfl
   ·rfl
noncomputable def apK (n m:Nat):Ctx:=dM n m [] [(130,RO),(275,acO),(274,acN)]
theorem al0 (n m:Nat):CB PP (apK n m):=dP n m trivial ⟨Zx,alZ,alY,trivial⟩
theorem al1:dt (PP ()) 273 SK:=by
 refine e6 (al0 0 0) (fo Tryz.func273) (λa=>⟨λx=>(cP x).1,λx=>(cP x).1,trivial⟩) (λa=>trivial) ?_
 rintro ⟨a,b⟩ hx
 have gI:a.length<=1000000/\b.length<=1000000:=hx
 obtain ⟨A,hA⟩:∃A:Int,(a.length:Int)=A:=⟨_,rfl⟩
 obtain ⟨B,hB⟩:∃B:Int,(b.length:Int)=B:=⟨_,rfl⟩
 obtain ⟨U,hU⟩:∃U:Int,sf A B=U:=⟨_,rfl⟩
 obtain ⟨V,hV⟩:∃V:Int,fT a b=V:=⟨_,rfl⟩
 have e:xG [U,V]=iN a b:=by rw [<-hU,<-hV,<-hA,<-hB];exact akC a b
 have h2:([U,V]:List Int).length<=1000000:=by show 2<=1000000;decide
 refine ⟨?_⟩
 cbv
 refine ⟨⟨A,B⟩,⟨by have bD:=hA;have jE:=hB;exact cd,trivial⟩,?_⟩
 cbv
 refine ⟨⟨a,b⟩,⟨by exact bp,gI⟩,?_⟩
 cbv
 refine ⟨[U,V],⟨.inl ⟨by have bD:=hU;have jE:=hV;exact cd,rfl⟩,h2⟩,?_⟩
 cbv
 exact ⟨by have bD:=e;exact cd⟩
def M5 (n:Net) (s:dW):List SV:=[.sl 3 je (λ_=>n.ins),.sl 5 kY (λ_=>n.aY),.sl 3 je (λ_=>n.outs),.sl 1 bC (λ_=>n.bj),.sl 1 bC (λ_=>s.labels),.sl 1 yo (λ_=>s.eT),.sl 1 eB (λ_=>s.leaves)]
theorem Zy (n:Net) (s:dW):cN (M5 n s):=⟨λx=>(uh x).1,λx=>(ui x).1,λx=>(uh x).1,λx=>(cP x).1,λx=>(cP x).1,λx=>(PZ x).1,λx=>(mT x).1,trivial⟩
structure apL where
 n:Net
 s:dW
 l:List Int
structure jY (L l:List Int):Prop where
 len:l.length<=1000000
 mem:∀v∈l,0<=v/\v < L.length
 gH:∀x∈L,0<=x/\x<=1000000
theorem jY.le {L l:List Int} (h:jY L l):0<=bR L l/\bR L l<=1000000:=by
 refine ⟨qo L l,sW (by decide) λv hv=>?_⟩
 have hb:=h.mem v hv
 rw [List.getD_eq_getElem?_getD,ea (show v.toNat < L.length by omega)]
 exact (h.gH _ (Py _)).2
theorem Kw {L l:List Int} {i:Nat} {v x:Int} (hv:l[i]?=some v) (hx:L[v.toNat]?=some x):max (bR L (l.take i)) x=bR L (l.take (i+1)):=by
 unfold bR
 rw [kf,hv,pF,List.foldl_append,nN,G9,List.getD_eq_getElem?_getD,hx]
 rfl
@[reducible] noncomputable def IE:Vc.Spec where
 α:=apL
 args x:=[.dV (M5 x.n x.s) 0,.sl 1 bC (λ_=>x.l)]
 pre x:=jY x.s.labels x.l
 res x:=.i .i64 (λ_=>bR x.s.labels x.l)
theorem L3:dt (PP ()) 259 IE:=by
 refine e6 (pT 0 0) (fo Tryz.func259) (λa=>⟨Zy a.n a.s,λx=>(cP x).1,trivial⟩) (λa=>trivial) ?_
 rintro ⟨n,⟨L,C,F⟩,l⟩ hx
 have hx:jY L l:=hx
 have mJ:=hx.len
 have za:bR L (l.take 0)=0:=rfl
 refine ⟨?_⟩
 cbv
 refine Sat.cU (pT 0 0) 0 5 [] (λi:Nat=>[(5,.i .i64 (λ_=>bR L (l.take i))),(8,.sl 1 bC (λ_=>l)),(9,.i .i64 (λ_=>(l.length:Int))),(10,.i .i64 λ_=>(i:Int))]) (λ_=>[]) (λi=>i<=l.length) (λi=>l.length - i) 0 (by have iC:=za.symm;exact a8) (by exact aM) (cg _) ?_
 intro i hi
 have hi:i<=l.length:=hi
 have h0:=n0 i
 have h1:=cX (i:=i) (by omega)
 cbv
 refine ⟨λh=>?_,λh=>?_⟩
 ·have bQ:i < l.length:=aL
  have bX:l.length - (i+1) < l.length - i:=by omega
  refine (bK bQ).elim λv hv=>?_
  have hb:=hx.mem v (cf hv)
  refine (bK (l:=L) (i:=v.toNat) (by omega)).elim λx fG=>?_
  have cC:=Kw hv fG
  have eM:=hb.1
  cbv
  refine ⟨v,⟨h0,hv⟩,?_⟩
  cbv
  refine ⟨x,⟨eM,fG⟩,?_⟩
  cbv
  exact ⟨i+1,by have bD:=cC;have jE:=h1;exact a8,by exact aM,⟨⟨bQ,bX⟩⟩⟩
 ·have cz:l.length<=i:=aL
  have hr:bR L (l.take i)=bR L l:=by rw [iL cz]
  cbv
  exact ⟨by have bD:=hr;exact cd⟩
theorem P0 {f:List Int->Int} {x:List Int}:∀{r:List (List Int)} {m:List Int},jU f m (r++[x])=if f x - f (jU f m r) < 0 then x else jU f m r
 | [],m=>by
  show (if f x - f m < 0 then jU f x [] else jU f m [])=_
  rfl
 | y :: r,m=>by
  show (if f y - f m < 0 then jU f y (r++[x]) else jU f m (r++[x]))=if f x - f (if f y - f m < 0 then jU f y r else jU f m r) < 0 then x else (if f y - f m < 0 then jU f y r else jU f m r)
  by_cases hc:f y - f m < 0
  ·rw [if_pos hc,if_pos hc];exact P0
  ·rw [if_neg hc,if_neg hc];exact P0
end Go.Proofs.Pk
