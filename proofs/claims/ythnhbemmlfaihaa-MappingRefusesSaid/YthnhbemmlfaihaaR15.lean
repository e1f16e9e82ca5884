import Derived.Test.YthnhbemmlfaihaaR13
import Derived.Test.YthnhbemmlfaihaaR14
import Derived.Test.YthnhbemmlfaihaaProg
set_option linter.unusedVariables false
set_option linter.unusedSimpArgs false
set_option maxRecDepth 10000
set_option maxHeartbeats 64000000
namespace Go.Proofs.Pk
open Go Go.Vc
theorem xP {I:Nat} {R:List Int} (hR:fX R) (gg:∀r∈R,2+(I:Int)<=r) {v s:Int}:eO I R v=some s↔(0<=v/\v < 2+I/\s=v)\/∃i:Nat,R[i]?=some v/\s=2+I+i:=by
 unfold eO
 split
 ·rename_i h
  constructor
  ·intro e;simp at e;exact .inl ⟨h.1,h.2,e.symm⟩
  ·rintro (⟨_,_,e⟩|⟨i,hi,e⟩)
   ·rw [e]
   ·have:=gg v (cN hi);omega
 ·rename_i h
  constructor
  ·intro e
   rw [Et] at e
   obtain ⟨i,hi,rfl⟩:=e
   rw [En] at hi
   obtain ⟨hl,hi,_⟩:=hi
   simp at hi
   exact .inr ⟨i,by rw [dE hl,hi],rfl⟩
  ·rintro (⟨h1,h2,_⟩|⟨i,hi,rfl⟩)
   ·exact absurd ⟨h1,h2⟩ h
   ·rw [Et]
    refine ⟨i,?_,rfl⟩
    obtain ⟨hl,hi⟩:=bh.1 hi
    rw [En]
    refine ⟨hl,by simpa using hi,λj hj=>?_⟩
    have:=(qO.1 hR) j i (by omega) hl hj
    simp;omega
theorem adV {I:Nat} {R:List Int} (hR:fX R) (gg:∀r∈R,2+(I:Int)<=r) {v w s:Int} (h:eO I R v=some s) (k:eO I R w=some s):v=w:=by
 rcases (xP hR gg).1 h with ⟨h1,h2,rfl⟩|⟨i,hi,rfl⟩
 ·rcases (xP hR gg).1 k with ⟨_,_,e⟩|⟨j,hj,e⟩
  ·exact e
  ·omega
 ·rcases (xP hR gg).1 k with ⟨_,h2,e⟩|⟨j,hj,e⟩
  ·omega
  ·have:i=j:=by omega
   subst this
   rw [hi] at hj;cases hj;rfl
theorem R0 {N:Int}:∀{last:Int} {R:List Int},mE N last R=true->fX R/\∀r∈R,last < r/\r < N
 | _,[],_=>⟨.nil,by simp⟩
 | last,r :: rs,h=>by
  simp only [mE,cu,decide_eq_true_eq] at h
  obtain ⟨h1,h2⟩:=h
  obtain ⟨h3,h4⟩:=R0 h2
  refine ⟨eX.2 ⟨λx hx=>(h4 x hx).1,h3⟩,λx hx=>?_⟩
  rcases cx.1 hx with rfl|hx
  ·exact h1
  ·have:=h4 x hx;omega
theorem SC {sig:Int->Option Int}:∀{D E:List Int},E.length=D.length->oe sig D E=true->E=D.map λv=>(sig v).getD 0
 | [],[],_,_=>rfl
 | [],_ :: _,h,_=>by simp at h
 | _ :: _,[],h,_=>by simp at h
 | d :: D,e :: E,h,k=>by
  simp only [oe,cu,decide_eq_true_eq] at k
  rw [gS,k.1,<-SC (by simpa using h) k.2]
  rfl
theorem RH {sig:Int->Option Int}:∀{D E:List Int},E.length=D.length->oe sig D E=true->∀d∈D,∃s,sig d=some s
 | [],_,_,_=>by simp
 | _ :: _,[],h,_=>by simp at h
 | d :: D,e :: E,h,k=>by
  simp only [oe,cu,decide_eq_true_eq] at k
  intro x hx
  rcases cx.1 hx with rfl|hx
  ·exact ⟨e,k.1⟩
  ·exact RH (by simpa using h) k.2 x hx
theorem acj {x y:Cell}:B6 x y=true↔x=y:=by
 unfold B6
 cases x;cases y
 simp only [cu,decide_eq_true_eq,Cell.mk.injEq]
 constructor
 ·rintro ⟨⟨a,b⟩,c⟩;exact ⟨c,a,b⟩
 ·rintro ⟨a,b,c⟩;exact ⟨⟨b,c⟩,a⟩
theorem R4 {I:Nat} {gs:List Gate} {sig:Int->Option Int}:∀{C:List Cell} {R:List Int} {L:List (List Int)},mD I gs sig C R L=true->∀(j:Nat) (x:Cell) (r:Int) (l:List Int),C[j]?=some x->R[j]?=some r->L[j]?=some l ->
  (cellOf I gs r l sig).2=0/\x=(cellOf I gs r l sig).1
 | x :: C,r :: R,l :: L,h,j,x',r',l',hx,hr,hl=>by
  simp only [mD,cu,decide_eq_true_eq] at h
  cases j with
  | zero =>
   simp at hx hr hl
   subst hx;subst hr;subst hl
   exact ⟨h.1.1,acj.1 h.1.2⟩
  | succ j=>exact R4 h.2 j x' r' l' (by simpa using hx) (by simpa using hr) (by simpa using hl)
 | [],_,_,_,j,x',r',l',hx,_,_=>by simp at hx
 | _ :: _,[],_,_,j,x',r',l',_,hr,_=>by simp at hr
 | _ :: _,_ :: _,[],_,j,x',r',l',_,_,hl=>by simp at hl
theorem Hx {I:Nat} {gs:List Gate} {r:Int} {l:List Int} {sig:Int->Option Int} (h:(cellOf I gs r l sig).2=0):(mG sig l).2=true/\(cellOf I gs r l sig).1.ins=l.map λx=>(sig x).getD 0:=by
 unfold cellOf at h ⊢
 split
 ·rename_i ha
  refine ⟨ha,?_⟩
  have:=Hw (Bu ha)
  cases gJ I gs r.toNat with
  | none=>simp only;rw [this]
  | some g =>
   simp only
   split
   ·rw [this]
   ·split
    ·rw [this]
    ·rw [this]
 ·rename_i ha
  rw [if_neg ha] at h
  simp at h
structure tz (I:Nat) (gs:List Gate) (bf:List Int) (m:dM) (c:jn):Prop where
 n:m.n=I
 rl:c.root.length=m.cells.length
 ll:c.leaves.length=m.cells.length
 dl:m.bf.length=bf.length
 inc:fX c.root
 lim:∀r∈c.root,2+(I:Int)<=r/\r < 2+I+gs.length
 cell:∀(j:Nat) (x:Cell) (r:Int) (l:List Int),m.cells[j]?=some x->c.root[j]?=some r->c.leaves[j]?=some l->(cellOf I gs r l (eO I c.root)).2=0/\x=(cellOf I gs r l (eO I c.root)).1
 Gi:m.bf=bf.map λv=>(eO I c.root v).getD 0
 OE:∀d∈bf,∃s,eO I c.root d=some s
theorem Tk {I:Nat} {gs:List Gate} {bf:List Int} {m:dM} {c:jn} (h:uM I gs bf m c=true):tz I gs bf m c:=by
 unfold uM at h
 simp only [cu,decide_eq_true_eq] at h
 obtain ⟨⟨⟨⟨h1,h2⟩,h3⟩,h4⟩,h5,h6,h7⟩:=h
 obtain ⟨h8,h9⟩:=R0 h5
 exact ⟨h1,h2,h3,h4,h8,λr hr=>by have:=h9 r hr;omega,R4 h6,SC h4 h7,RH h4 h7⟩
theorem adW {I:Nat} {gs:List Gate} {bf:List Int} {m m':dM} {c:jn} (h:tz I gs bf m c) (k:tz I gs bf m' c):m'=m:=by
 have hc:m'.cells=m.cells:=by
  apply nh
  intro j
  have hl:m'.cells.length=m.cells.length:=by rw [<-h.rl,<-k.rl]
  by_cases hj:j < m.cells.length
  ·have hx:=dE (l:=m.cells) hj
   have jy:=dE (l:=m'.cells) (i:=j) (by omega)
   have hr:=dE (l:=c.root) (i:=j) (by rw [h.rl];exact hj)
   have hv:=dE (l:=c.leaves) (i:=j) (by rw [h.ll];exact hj)
   rw [hx,jy,(h.cell j _ _ _ hx hr hv).2,(k.cell j _ _ _ jy hr hv).2]
  ·rw [l7 (by omega),l7 (by omega)]
 cases m;cases m'
 simp only [dM.mk.injEq]
 exact ⟨k.n.trans h.n.symm,hc,k.Gi.trans h.Gi.symm⟩
theorem ack {I:Nat} {gs:List Gate} {bf:List Int} {m:dM} {R:List Int} {L L':List (List Int)} (h:tz I gs bf m ⟨R,L⟩) (k:tz I gs bf m ⟨R,L'⟩):L'=L:=by
 apply nh
 intro j
 have hL:L.length=m.cells.length:=h.ll
 have C3:L'.length=m.cells.length:=k.ll
 by_cases hj:j < m.cells.length
 ·have hx:=dE (l:=m.cells) hj
  have hr:=dE (l:=R) (i:=j) (by have:R.length=m.cells.length:=h.rl;omega)
  have hv:=dE (l:=L) (i:=j) (by omega)
  have yH:=dE (l:=L') (i:=j) (by omega)
  have h1:=h.cell j _ _ _ hx hr hv
  have h2:=k.cell j _ _ _ hx hr yH
  have e1:=Hx h1.1
  have e2:=Hx h2.1
  rw [hv,yH]
  congr 1
  have e:(L[j]).map (λx=>(eO I R x).getD 0)=(L'[j]).map λx=>(eO I R x).getD 0:=by
   rw [<-e1.2,<-e2.2,<-h1.2,<-h2.2]
  have inj:∀(a b:List Int),(∀x∈a,∃s,eO I R x=some s)->(∀x∈b,∃s,eO I R x=some s)->a.map (λx=>(eO I R x).getD 0)=b.map (λx=>(eO I R x).getD 0)->b=a:=by
   intro a
   induction a with
   | nil=>intro b _ _ e;cases b with|nil=>rfl|cons y b=>simp at e
   | cons x a ih =>
    intro b ha hb e
    cases b with
    | nil=>simp at e
    | cons y b =>
     rw [gS,gS,Eb] at e
     obtain ⟨s,hs⟩:=ha x (by simp)
     obtain ⟨t,ht⟩:=hb y (by simp)
     rw [hs,ht] at e
     have e0:s=t:=e.1
     subst e0
     rw [adV h.inc (λr hr=>(h.lim r hr).1) ht hs,ih b (λz hz=>ha z (by simp [hz])) (λz hz=>hb z (by simp [hz])) e.2]
  exact inj _ _ (Bu e1.1) (Bu e2.1) e
 ·rw [l7 (by omega),l7 (by omega)]
theorem adX {I:Nat} {gs:List Gate} (G:cI I gs) {s:dV} (h:lJ I gs s) {bf:List Int} (hd:∀d∈bf,0<=d/\d < 2+I+gs.length) {at_:Nat} {r':Int}
  (k:tz I gs bf (jb I gs s bf).1 ⟨(fN I s bf).set at_ r',(fN I s bf).map (jE s)⟩):(fN I s bf).set at_ r'=fN I s bf:=by
 obtain ⟨q1,q2,q3,q4,q5⟩:=Lg G h hd
 by_cases mb:at_ < (fN I s bf).length
 ·have hr:=dE mb
  generalize hrr:(fN I s bf)[at_]=r at hr
  have Kj:=cN hr
  by_cases e:r'=r
  ·subst e
   exact nh λj=>by
    rw [iN]
    by_cases hj:at_=j
    ·subst hj;simp [mb,hrr]
    ·rw [if_neg hj]
  ·exfalso
   have hk:(fN I s bf).set at_ r'=((⟨(fN I s bf).set at_ r',(fN I s bf).map (jE s)⟩:jn)).root:=rfl
   have di:∀t,eO I ((fN I s bf).set at_ r') r≠some t:=λt ht=>by
    rcases (xP k.inc λx hx=>(k.lim x hx).1).1 ht with ⟨_,h2,_⟩|⟨i,hi,_⟩
    ·have:=(q2 r Kj).1;omega
    ·rw [hk.symm,iN] at hi
     by_cases hj:at_=i
     ·subst hj;simp [mb] at hi;exact e hi
     ·rw [if_neg hj] at hi
      have h1:=bh.1 hi
      have h2:=bh.1 hr
      have:=qO.1 q1
      rcases nZ i at_ with aP|cf
      ·have:=this i at_ h1.1 h2.1 aP;rw [h1.2,h2.2] at this;omega
      ·have:=this at_ i h2.1 h1.1 (by omega);rw [h1.2,h2.2] at this;omega
   rcases q5 r Kj with yP|⟨u,hu,JT⟩
   ·obtain ⟨t,ht⟩:=k.OE r yP
    exact di t ht
   ·obtain ⟨j,hj⟩:=pW hu
    have e8:=(bh.1 hj).1
    have bL:at_≠j:=by
     rintro rfl
     rw [hr] at hj;cases hj
     have:=U9 G h (q2 r Kj).1 (q2 r Kj).2 r JT
     omega
    have jK:((jb I gs s bf).1).cells.length=(fN I s bf).length:=by unfold jb;simp
    have hx:=dE (l:=((jb I gs s bf).1).cells) (i:=j) (by omega)
    have NV:((fN I s bf).set at_ r')[j]?=some u:=by rw [iN,if_neg bL];exact hj
    have ahz:((fN I s bf).map (jE s))[j]?=some (jE s u):=by rw [k7,hj];rfl
    have:=(k.cell j _ u _ hx NV ahz).1
    obtain ⟨t,ht⟩:=Bu (Hx this).1 r JT
    exact di t ht
 ·exact Lz (by omega)
structure mh where
 ins:Int->Option Unit
 rch:Int->Option Unit
def yz (f:Int->Option Unit) (v:Int):Int->Option Unit:=λj=>if j=v then some () else f j
theorem zA {f:Int->Option Unit} {v u:Int}:(yz f v u).isSome=true↔u=v\/(f u).isSome=true:=by
 unfold yz
 by_cases h:u=v
 ·simp [h]
 ·simp [h]
def Av (S:List Int) (st:mh) (x:Int):Prop:=(x∈S/\(st.rch x).isSome=true)\/(x∉S/\(x < 2\/(st.ins x).isSome=true))
theorem Av.mono {S:List Int} {st cS:mh} (h1:∀u,(st.ins u).isSome=true->(cS.ins u).isSome=true) (h2:∀u,(st.rch u).isSome=true->(cS.rch u).isSome=true) {x:Int} (h:Av S st x):Av S cS x:=by
 rcases h with ⟨a,b⟩|⟨a,b|b⟩
 ·exact .inl ⟨a,h2 _ b⟩
 ·exact .inr ⟨a,.inl b⟩
 ·exact .inr ⟨a,.inr (h1 _ b)⟩
structure Ci (I:Nat) (gs:List Gate) (S:List Int) (st:mh) (u:Int):Prop where
 gate:∃g,gJ I gs u.toNat=some g/\g.op≠7
 ch:∀x∈sQ I gs S u.toNat,Av S st x
theorem Ci.mono {I:Nat} {gs:List Gate} {S:List Int} {st cS:mh} (h1:∀u,(st.ins u).isSome=true->(cS.ins u).isSome=true) (h2:∀u,(st.rch u).isSome=true->(cS.rch u).isSome=true) {u:Int} (h:Ci I gs S st u):Ci I gs S cS u :=
 ⟨h.gate,λx hx=>(h.ch x hx).mono h1 h2⟩
structure mH (I:Nat) (gs:List Gate) (S:List Int) (st:mh) (v:Int) (res:Bool) (cS:mh):Prop where
 mI:∀u,(st.ins u).isSome=true->(cS.ins u).isSome=true
 mR:∀u,(st.rch u).isSome=true->(cS.rch u).isSome=true
 nI:∀u,(cS.ins u).isSome=true->(st.ins u).isSome=true\/∃w:Nat,u=w/\gE I gs S v.toNat w/\u∉S/\2<=u
 nR:∀u,(cS.rch u).isSome=true->(st.rch u).isSome=true\/∃w:Nat,u=w/\gE I gs S v.toNat w/\u∈S
 yes:res=true->Av S cS v/\∀u,(cS.ins u).isSome=true->(st.ins u).isSome=true\/Ci I gs S cS u
 no:res=false->∃w:Nat,gE I gs S v.toNat w/\tE I gs S w=false
structure q8 (I:Nat) (gs:List Gate) (S:List Int) (st:mh) (v:Int) (ops:List Int) (j:Nat) (cS:mh):Prop where
 le:j<=ops.length
 mI:∀u,(st.ins u).isSome=true->(cS.ins u).isSome=true
 mR:∀u,(st.rch u).isSome=true->(cS.rch u).isSome=true
 nI:∀u,(cS.ins u).isSome=true->(st.ins u).isSome=true\/∃w:Nat,u=w/\gE I gs S v.toNat w/\u∉S/\2<=u
 nR:∀u,(cS.rch u).isSome=true->(st.rch u).isSome=true\/∃w:Nat,u=w/\gE I gs S v.toNat w/\u∈S
 vi:(cS.ins v).isSome=true
 ch:∀i x,i < j->ops[i]?=some x->Av S cS x
 nw:∀u,(cS.ins u).isSome=true->(st.ins u).isSome=true\/u=v\/Ci I gs S cS u
section
variable {I:Nat} {gs:List Gate} {S:List Int} {st cS:mh} {v:Int}
theorem mH.leaf (hv:0<=v) (hm:v∈S):mH I gs S st v true ⟨st.ins,yz st.rch v⟩ where
 mI _ h:=h
 mR _ h:=zA.2 (.inr h)
 nI _ h:=.inl h
 nR u h:=by
  rcases zA.1 h with rfl|h
  ·exact .inr ⟨u.toNat,by omega,.base rfl,hm⟩
  ·exact .inl h
 yes _:=⟨.inl ⟨hm,zA.2 (.inl rfl)⟩,λu h=>.inl h⟩
 no h:=by cases h
theorem mH.known (hm:v∉S) (h:v < 2\/(st.ins v).isSome=true):mH I gs S st v true st where
 mI _ h:=h
 mR _ h:=h
 nI _ h:=.inl h
 nR _ h:=.inl h
 yes _:=⟨.inr ⟨hm,h⟩,λu h=>.inl h⟩
 no h:=by cases h
theorem adY {w:Nat} (h1:(w:Int)∉S) (h2:2<=w) (h3:∀g,gJ I gs w=some g->g.op=7):tE I gs S w=false:=by
 cases h:tE I gs S w with
 | false=>rfl
 | true =>
  rcases zp.1 h with h|h|⟨g,hg,h7⟩
  ·exact absurd h h1
  ·omega
  ·exact absurd (h3 g hg) h7
theorem mH.bad (hv:2<=v) (hm:v∉S) (h:∀g,gJ I gs v.toNat=some g->g.op=7):mH I gs S st v false st where
 mI _ h:=h
 mR _ h:=h
 nI _ h:=.inl h
 nR _ h:=.inl h
 yes h:=by cases h
 no _:=⟨v.toNat,.base rfl,adY (by rw [Int.toNat_of_nonneg (by omega)];exact hm) (by omega) h⟩
theorem q8.start (hv:2<=v) (hm:v∉S) (ops:List Int):q8 I gs S st v ops 0 ⟨yz st.ins v,st.rch⟩ where
 le:=cP _
 mI _ h:=zA.2 (.inr h)
 mR _ h:=h
 nI u h:=by
  rcases zA.1 h with rfl|h
  ·exact .inr ⟨u.toNat,by omega,.base rfl,hm,hv⟩
  ·exact .inl h
 nR _ h:=.inl h
 vi:=zA.2 (.inl rfl)
 ch i x h:=by omega
 nw u h:=by
  rcases zA.1 h with rfl|h
  ·exact .inr (.inl rfl)
  ·exact .inl h
theorem EM {x:Int} (hx:x∈sQ I gs S v.toNat) {w:Nat} (h:gE I gs S x.toNat w):gE I gs S v.toNat w :=
 h.mono λu hu=>by subst hu;exact .step (.base rfl) hx
theorem q8.step {ops:List Int} {j:Nat} {x:Int} {uf:mh} (h:q8 I gs S st v ops j cS) (hj:ops[j]?=some x) (hx:x∈sQ I gs S v.toNat) (k:mH I gs S cS x true uf):q8 I gs S st v ops (j+1) uf where
 le:=(bh.1 hj).1
 mI u hu:=k.mI u (h.mI u hu)
 mR u hu:=k.mR u (h.mR u hu)
 nI u hu:=by
  rcases k.nI u hu with hu|⟨w,a,b,c⟩
  ·exact h.nI u hu
  ·exact .inr ⟨w,a,EM hx b,c⟩
 nR u hu:=by
  rcases k.nR u hu with hu|⟨w,a,b,c⟩
  ·exact h.nR u hu
  ·exact .inr ⟨w,a,EM hx b,c⟩
 vi:=k.mI v h.vi
 ch i y hi hy:=by
  by_cases e:i=j
  ·subst e;rw [hj] at hy;cases hy;exact (k.yes rfl).1
  ·exact (h.ch i y (by omega) hy).mono k.mI k.mR
 nw u hu:=by
  rcases (k.yes rfl).2 u hu with hu|hu
  ·rcases h.nw u hu with hu|hu|hu
   ·exact .inl hu
   ·exact .inr (.inl hu)
   ·exact .inr (.inr (hu.mono k.mI k.mR))
  ·exact .inr (.inr hu)
theorem q8.fail {ops:List Int} {j:Nat} {x:Int} {uf:mh} (h:q8 I gs S st v ops j cS) (hx:x∈sQ I gs S v.toNat) (k:mH I gs S cS x false uf):mH I gs S st v false uf where
 mI u hu:=k.mI u (h.mI u hu)
 mR u hu:=k.mR u (h.mR u hu)
 nI u hu:=by
  rcases k.nI u hu with hu|⟨w,a,b,c⟩
  ·exact h.nI u hu
  ·exact .inr ⟨w,a,EM hx b,c⟩
 nR u hu:=by
  rcases k.nR u hu with hu|⟨w,a,b,c⟩
  ·exact h.nR u hu
  ·exact .inr ⟨w,a,EM hx b,c⟩
 yes h:=by cases h
 no _:=by
  obtain ⟨w,a,b⟩:=k.no rfl
  exact ⟨w,EM hx a,b⟩
theorem q8.fin {ops:List Int} {j:Nat} (h:q8 I gs S st v ops j cS) (hj:ops.length<=j) (hm:v∉S) {g:Gate} (hg:gJ I gs v.toNat=some g) (h7:g.op≠7) (ho:ops=cR g):mH I gs S st v true cS where
 mI:=h.mI
 mR:=h.mR
 nI:=h.nI
 nR:=h.nR
 yes _:=⟨.inr ⟨hm,.inr h.vi⟩,λu hu=>by
  rcases h.nw u hu with hu|rfl|hu
  ·exact .inl hu
  ·refine .inr ⟨⟨g,hg,h7⟩,λx hx=>?_⟩
   obtain ⟨-,g',kP,-,hx⟩:=qU.1 hx
   rw [hg] at kP;cases kP
   obtain ⟨i,hi⟩:=pW hx
   rw [<-ho] at hi
   exact h.ch i x (by have:=(bh.1 hi).1;omega) hi
  ·exact .inr hu⟩
 no h:=by cases h
end
structure I1 (I:Nat) (gs:List Gate) (S:List Int) (root:Int) (st:mh):Prop where
 ins:∀u:Int,(st.ins u).isSome=true↔2<=u/\gE I gs S root.toNat u.toNat/\u∉S
 rch:∀u:Int,(st.rch u).isSome=true↔0<=u/\gE I gs S root.toNat u.toNat/\u∈S
 XQ:∀w:Nat,gE I gs S root.toNat w->tE I gs S w=true
theorem I1.of {I:Nat} {gs:List Gate} (G:cI I gs) {S:List Int} {root:Int} (hr:2<=root) {st:mh} (h:mH I gs S ⟨λ_=>none,λ_=>none⟩ root true st):I1 I gs S root st:=by
 obtain ⟨hc,hn⟩:=h.yes rfl
 have hd:∀u,(st.ins u).isSome=true->Ci I gs S st u:=λu hu=>(hn u hu).resolve_left (by simp)
 have OF:∀w:Nat,gE I gs S root.toNat w->Av S st w:=λw hw=>by
  induction hw with
  | base e=>rw [e,Int.toNat_of_nonneg (by omega)];exact hc
  | @step u x _ hx ih =>
   have j5:=EV G hx
   have hum:=(qU.1 hx).1
   obtain ⟨-,g,hg,-⟩:=qU.1 hx
   obtain ⟨i,rfl,-⟩:=pU.1 hg
   rcases ih with ⟨a,_⟩|⟨_,a|a⟩
   ·exact absurd a hum
   ·omega
   ·rw [Int.toNat_of_nonneg j5.1]
    exact (hd _ a).ch x (by rw [jC];exact hx)
 refine ⟨λu=>⟨λhu=>?_,λ⟨h2,hu,hm⟩=>?_⟩,λu=>⟨λhu=>?_,λ⟨h0,hu,hm⟩=>?_⟩,λw hw=>?_⟩
 ·rcases h.nI u hu with hu|⟨w,rfl,a,b,c⟩
  ·simp at hu
  ·exact ⟨c,by rw [jC];exact a,b⟩
 ·have:=OF _ hu
  rw [Int.toNat_of_nonneg (by omega)] at this
  rcases this with ⟨a,_⟩|⟨_,a|a⟩
  ·exact absurd a hm
  ·omega
  ·exact a
 ·rcases h.nR u hu with hu|⟨w,rfl,a,b⟩
  ·simp at hu
  ·exact ⟨by omega,by rw [jC];exact a,b⟩
 ·have:=OF _ hu
  rw [Int.toNat_of_nonneg h0] at this
  rcases this with ⟨_,a⟩|⟨a,_⟩
  ·exact a
  ·exact absurd hm a
 ·refine zp.2 ?_
  rcases OF w hw with ⟨a,_⟩|⟨_,a|a⟩
  ·exact .inl a
  ·exact .inr (.inl (by omega))
  ·have:=(hd _ a).gate
   rw [jC] at this
   exact .inr (.inr this)
theorem adZ {I:Nat} {gs:List Gate} (G:cI I gs) {S:List Int} {root:Int} {w:Nat} (hw:gE I gs S root.toNat w) (hg:tE I gs S w=false):iE I gs root S=none:=by
 unfold iE
 split
 ·simp only
  rw [if_neg]
  simp only [cu,not_and]
  intro h
  have:=im.1 h w (mB.2 (by have:=gE.le G hw;omega))
  rw [(tj G).2 hw,hg] at this
  cases this
 ·rfl
theorem acT {I:Nat} {gs:List Gate} (G:cI I gs) {S:List Int} {root x:Int} (hx:x∈S) (hn:¬gE I gs S root.toNat x.toNat):iE I gs root S=none:=by
 unfold iE
 split
 ·simp only
  rw [if_neg]
  simp only [cu,not_and]
  intro _ h
  exact hn ((tj G).1 (im.1 h x hx))
 ·rfl
theorem abm {I:Nat} {gs:List Gate} {S:List Int} {root:Int} (h:qb (2+I+gs.length) root S=false):iE I gs root S=none:=by
 unfold iE;rw [h];rfl
theorem acU {I:Nat} {gs:List Gate} (G:cI I gs) {S:List Int} {root:Int} {st:mh} (hl:qb (2+I+gs.length) root S=true) (h:I1 I gs S root st) (ha:∀x∈S,gE I gs S root.toNat x.toNat):∃l,iE I gs root S=some l/\fX l/\∀u:Int,u∈l↔(st.ins u).isSome=true:=by
 have hs:∃l,iE I gs root S=some l:=by
  unfold iE
  rw [if_pos hl]
  simp only
  rw [if_pos]
  ·exact ⟨_,rfl⟩
  simp only [cu,im]
  refine ⟨λw _=>?_,λx hx=>(tj G).2 (ha x hx)⟩
  cases hq:(zR I gs root.toNat S).getD w false with
  | false=>rfl
  | true=>rw [h.XQ w ((tj G).1 hq)];rfl
 obtain ⟨l,hl⟩:=hs
 have hm:=Em G hl
 exact ⟨l,hl,hm.1,λu=>(hm.2 u).trans (h.ins u).symm⟩
noncomputable def PP:Unit->Program:=λ_=>Try.prog
abbrev I0:Value:=.int .i64 0
abbrev U0:Value:=.int .u64 0
abbrev Y0:Value:=.int .u8 0
abbrev N0:Value:=.slice none 0 0
abbrev S0:Value:=.string ByteArray.empty
abbrev B0:Value:=.bool false
abbrev M0:Value:=.map none
@[reducible] def ti (d:TD) (s b:Nat) (z:Value):TI:={ d:=d,size:=s,bytes:=b,zero:=z }
@[reducible] def tF (d:TD) (s b:Nat) (z:Value) (k:Option (List IntKind)):TI:={ d:=d,size:=s,bytes:=b,zero:=z,flat:=true,kd:=k }
@[reducible] def tS (e:TypeId):TI:={ d:=.sl e,size:=1,bytes:=24,zero:=.slice none 0 0 }
def tt:TypeId->Option TI
 | 3=>some (ti (.int .i64) 1 8 I0)
 | 4=>some (ti (.bool) 1 1 B0)
 | 5=>some (ti (.int .u8) 1 1 Y0)
 | 9=>some (ti (.str) 1 16 S0)
 | 22=>some (tS 5)
 | 32=>some (tS 3)
 | 39=>some (tS 32)
 | 60=>some (tS 4)
 | 30=>some (tS 67)
 | 31=>some (tS 53)
 | 33=>some (ti (.st [(30,0,1),(31,1,1),(30,2,1),(32,3,1)]) 4 96 (.agg #[N0,N0,N0,N0]))
 | 34=>some (ti (.st [(30,0,1),(31,1,1),(30,2,1),(32,3,1)]) 4 96 (.agg #[N0,N0,N0,N0]))
 | 36=>some (tS 57)
 | 37=>some (ti (.st [(3,0,1),(36,1,1),(32,2,1)]) 3 56 (.agg #[I0,N0,N0]))
 | 38=>some (ti (.st [(3,0,1),(36,1,1),(32,2,1)]) 3 56 (.agg #[I0,N0,N0]))
 | 42=>some (ti (.int .i64) 1 8 I0)
 | 134=>some (ti (.int .u64) 1 8 U0)
 | 27=>some (ti (.arr 3 5) 3 3 (.agg #[Y0,Y0,Y0]))
 | 40=>some (ti (.st [(32,0,1),(39,1,1)]) 2 48 (.agg #[N0,N0]))
 | 41=>some (ti (.st [(32,0,1),(39,1,1)]) 2 48 (.agg #[N0,N0]))
 | 43=>some (ti (.st [(38,0,3),(41,3,2),(42,5,1)]) 6 112 (.agg #[I0,N0,N0,N0,N0,I0]))
 | 44=>some (ti (.st [(38,0,3),(41,3,2),(42,5,1)]) 6 112 (.agg #[I0,N0,N0,N0,N0,I0]))
 | 62=>some (ti (.st [(32,0,1),(39,1,1),(42,2,1)]) 3 56 (.agg #[N0,N0,I0]))
 | 63=>some (ti (.st [(32,0,1),(39,1,1),(42,2,1)]) 3 56 (.agg #[N0,N0,I0]))
 | 89=>some (tS 39)
 | 52=>some (tF (.st [(3,0,1),(3,1,1),(3,2,1),(3,3,1),(3,4,1)]) 5 40 (.agg #[I0,I0,I0,I0,I0]) none)
 | 53=>some (tF (.st [(3,0,1),(3,1,1),(3,2,1),(3,3,1),(3,4,1)]) 5 40 (.agg #[I0,I0,I0,I0,I0]) none)
 | 66=>some (tF (.st [(3,0,1),(3,1,1),(3,2,1)]) 3 24 (.agg #[I0,I0,I0]) (some [.i64,.i64,.i64]))
 | 67=>some (tF (.st [(3,0,1),(3,1,1),(3,2,1)]) 3 24 (.agg #[I0,I0,I0]) (some [.i64,.i64,.i64]))
 | 56=>some (ti (.st [(32,0,1),(3,1,1),(3,2,1)]) 3 40 (.agg #[N0,I0,I0]))
 | 57=>some (ti (.st [(32,0,1),(3,1,1),(3,2,1)]) 3 40 (.agg #[N0,I0,I0]))
 | 82=>some (ti (.int .u64) 1 8 U0)
 | 107=>some (ti (.map 3 4) 1 8 M0)
 | 71=>some (ti (.map 3 3) 1 8 M0)
 | _=>none
theorem PY {t:TypeId} {i:TI} (h1:i.flat=false) (h2:i.kd=none) (hz:(Try.prog.info? t).map (·.zero)=some (some i.zero)) (hb:PR Try.prog t i=true):k9 Try.prog t i :=
 U1 hz hb (λh=>by rw [h1] at h;cases h) (λ_ h=>by rw [h2] at h;cases h)
theorem WW:∀t i,tt t=some i->k9 Try.prog t i:=by
 intro t i h
 unfold tt at h
 split at h
 all_goals cases h
 all_goals first|exact PY rfl rfl (by kernel_rfl) (by kernel_rfl)|skip
 all_goals refine U1 (by kernel_rfl) (by kernel_rfl) (λ_=>⟨rfl,λvs us w _ _ h1 h2 op x y ff=>abS (by kernel_rfl) (by kernel_rfl) (by kernel_rfl) (by kernel_rfl) vs us w h1 h2 op x y ff⟩) (λks h=>?_)
 all_goals cases h
 all_goals exact ach (by kernel_rfl) (by kernel_rfl) (by kernel_rfl)
def bK (x:Int):List SV:=[.i .i64 λ_=>x]
theorem dv (x:Int):bX (bK x)/\(bK x).all SV.one=true:=⟨⟨trivial,trivial⟩,rfl⟩
def zS:gL:=⟨Int,bK,0⟩
def sR (x:Int):List SV:=[.i .u8 λ_=>x]
theorem ID (x:Int):bX (sR x)/\(sR x).all SV.one=true:=⟨⟨trivial,trivial⟩,rfl⟩
def WX:gL:=⟨Int,sR,0⟩
def pr (x:Bool):List SV:=[.b λ_=>x]
theorem H5 (x:Bool):bX (pr x)/\(pr x).all SV.one=true:=⟨⟨trivial,trivial⟩,rfl⟩
def Va:gL:=⟨Bool,pr,false⟩
def Jv (x:Int):List SV:=[.i .u64 λ_=>x]
theorem ae3 (x:Int):bX (Jv x)/\(Jv x).all SV.one=true:=⟨⟨trivial,trivial⟩,rfl⟩
def VL:gL:=⟨Int,Jv,0⟩
def fP (x:List Int):List SV:=[.sl 1 bK (λ_=>x)]
theorem qS (x:List Int):bX (fP x)/\(fP x).all SV.one=true:=⟨⟨λy=>(dv y).1,trivial⟩,rfl⟩
def M8:gL:=⟨List Int,fP,[]⟩
def zT (x:List (List Int)):List SV:=[.sl 1 fP (λ_=>x)]
theorem Tl (x:List (List Int)):bX (zT x)/\(zT x).all SV.one=true:=⟨⟨λy=>(qS y).1,trivial⟩,rfl⟩
def ad3:gL:=⟨List (List Int),zT,[]⟩
def jZ (x:ec):List SV:=[.i .i64 (λ_=>x.kind),.i .i64 (λ_=>x.i),.i .i64 (λ_=>x.bit)]
theorem r6 (x:ec):bX (jZ x)/\(jZ x).all SV.one=true:=⟨⟨trivial,trivial,trivial,trivial⟩,rfl⟩
def M9:gL:=⟨ec,jZ,⟨0,0,0⟩⟩
def mM (x:Gate):List SV:=[.i .i64 (λ_=>x.op),.i .i64 (λ_=>x.a),.i .i64 (λ_=>x.b),.i .i64 (λ_=>x.c),.i .i64 (λ_=>x.n)]
theorem uD (x:Gate):bX (mM x)/\(mM x).all SV.one=true:=⟨⟨trivial,trivial,trivial,trivial,trivial,trivial⟩,rfl⟩
def Na:gL:=⟨Gate,mM,⟨0,0,0,0,0⟩⟩
def lK (x:Cell):List SV:=[.sl 1 bK (λ_=>x.ins),.i .i64 (λ_=>x.table),.i .i64 (λ_=>x.ew)]
theorem BR (x:Cell):bX (lK x)/\(lK x).all SV.one=true:=⟨⟨λy=>(dv y).1,trivial,trivial,trivial⟩,rfl⟩
def Vb:gL:=⟨Cell,lK,⟨[],0,0⟩⟩
def Ns (x:Block):List SV:=[.sl 1 bK (λ_=>x.ins),.i .i64 (λ_=>x.table),.i .i64 (λ_=>x.ew),.i .i64 (λ_=>x.cK),.i .u64 (λ_=>x.key)]
theorem acV (x:Block):bX (Ns x)/\(Ns x).all SV.one=true:=⟨⟨λy=>(dv y).1,trivial,trivial,trivial,trivial,trivial⟩,rfl⟩
def I4 (x:Head):List SV:=[.b (λ_=>x.has),.i .i64 (λ_=>x.v)]
theorem ad4 (x:Head):bX (I4 x)/\(I4 x).all SV.one=true:=⟨⟨trivial,trivial,trivial⟩,rfl⟩
def ae4:gL:=⟨Head,I4,⟨false,0⟩⟩
def Jw (x:ByteArray):List SV:=[.str (λ_=>x)]
theorem ae5 (x:ByteArray):bX (Jw x)/\(Jw x).all SV.one=true:=⟨⟨trivial,trivial⟩,rfl⟩
def VM:gL:=⟨ByteArray,Jw,ByteArray.empty⟩
def EN (x:Source):List SV:=[.i .i64 (λ_=>x.kind),.i .i64 (λ_=>x.n)]
theorem Lu (x:Source):bX (EN x)/\(EN x).all SV.one=true:=⟨⟨trivial,trivial,trivial⟩,rfl⟩
def acW:gL:=⟨Source,EN,⟨0,0⟩⟩
def NW (x:Part):List SV:=[.sl 2 EN (λ_=>x.ins),.i .i64 (λ_=>x.table),.i .i64 (λ_=>x.ew),.i .i64 (λ_=>x.cK)]
theorem ad5 (x:Part):bX (NW x)/\(NW x).all SV.one=true:=⟨⟨λy=>(Lu y).1,trivial,trivial,trivial,trivial⟩,rfl⟩
def es:ByteArray:=ByteArray.empty
def cA:Nat->Expr->SV
 | 0,_=>.cH
 | n+1,x=>.sl 7 (λy=>[.i .i64 (λ_=>y.op),.str (λ_=>es),.i .i64 (λ_=>y.k),.str (λ_=>es),.i .i64 (λ_=>y.w),.str (λ_=>es),cA n y]) (λ_=>x.args)
def cE (n:Nat) (x:Expr):List SV:=[.i .i64 (λ_=>x.op),.str (λ_=>es),.i .i64 (λ_=>x.k),.str (λ_=>es),.i .i64 (λ_=>x.w),.str (λ_=>es),cA n x]
theorem Cj:∀(n:Nat) (x:Expr),LF (cA n x)
 | 0,x=>trivial
 | n+1,x=>λy=>⟨trivial,trivial,trivial,trivial,trivial,trivial,Cj n y,trivial⟩
theorem EX (n:Nat) (x:Expr):(cA n x).one=true:=by cases n<;>rfl
theorem WY (n:Nat) (x:Expr):bX (cE n x)/\(cE n x).all SV.one=true :=
 ⟨⟨trivial,trivial,trivial,trivial,trivial,trivial,Cj n x,trivial⟩,by simp only [cE,zn,Eg,EX];rfl⟩
def XR (n:Nat):gL:=⟨Expr,cE n,.mk 0 0 0 []⟩
def sm (x:OC):List SV:=[.i .i64 (λ_=>x.kind),.str (λ_=>x.src),.i .i64 (λ_=>x.n)]
def Fz (n:Nat) (x:PW):List SV:=[.str (λ_=>x.name),.i .i64 (λ_=>x.w),.i .i64 (λ_=>x.init)]++cE n x.next++sm x.OD
def FB (n:Nat) (x:Mem):List SV:=[.str (λ_=>x.name),.i .i64 (λ_=>x.w),.i .i64 (λ_=>x.words)]++cE n x.en++cE n x.ad++cE n x.da++sm x.OD
def E7 (n:Nat) (x:Take):List SV:=[.i .i64 (λ_=>x.chan),.i .i64 (λ_=>x.w)]++cE n x.cond
def FC (n:Nat) (x:PX):List SV:=[.i .i64 (λ_=>x.chan),.i .i64 (λ_=>x.w)]++cE n x.cond++cE n x.data
theorem ae6 (n:Nat) (x:PW):bX (Fz n x)/\(Fz n x).all SV.one=true:=by
 refine ⟨by simp [Fz,sm,cE,bX,LF,Cj],?_⟩
 simp only [Fz,sm,cE,zx,uC,zn,Eg,EX];rfl
theorem ae7 (n:Nat) (x:Mem):bX (FB n x)/\(FB n x).all SV.one=true:=by
 refine ⟨by simp [FB,sm,cE,bX,LF,Cj],?_⟩
 simp only [FB,sm,cE,zx,uC,zn,Eg,EX];rfl
theorem ad6 (n:Nat) (x:Take):bX (E7 n x)/\(E7 n x).all SV.one=true:=by
 refine ⟨by simp [E7,sm,cE,bX,LF,Cj],?_⟩
 simp only [E7,sm,cE,zx,uC,zn,Eg,EX];rfl
theorem ae8 (n:Nat) (x:PX):bX (FC n x)/\(FC n x).all SV.one=true:=by
 refine ⟨by simp [FC,sm,cE,bX,LF,Cj],?_⟩
 simp only [FC,sm,cE,zx,uC,zn,Eg,EX];rfl
def Nt (n:Nat):gL:=⟨PW,Fz n,⟨es,0,0,.mk 0 0 0 [],⟨0,es,0⟩⟩⟩
def Nu (n:Nat):gL:=⟨Mem,FB n,⟨es,0,0,.mk 0 0 0 [],.mk 0 0 0 [],.mk 0 0 0 [],⟨0,es,0⟩⟩⟩
def Nb (n:Nat):gL:=⟨Take,E7 n,⟨0,0,.mk 0 0 0 []⟩⟩
def Nv (n:Nat):gL:=⟨PX,FC n,⟨0,0,.mk 0 0 0 [],.mk 0 0 0 []⟩⟩
def el (n m:Nat):TypeId->Option gL
 | 3=>some zS
 | 5=>some WX
 | 4=>some Va
 | 134=>some VL
 | 32=>some M8
 | 39=>some ad3
 | 67=>some M9
 | 53=>some Na
 | 57=>some Vb
 | 9=>some VM
 | _=>none
theorem r7 {η:Nat->Value} {q:Nat->Live} {H:aV} {x:SV} {r:List SV} {v:Value} {vs:List Value} (h:rel η q H x v) (h':aK η q H r vs):aK η q H (x :: r) (v :: vs):=by
 simp only [aK];exact ⟨_,_,rfl,h,h'⟩
theorem MQ {η:Nat->Value} {q:Nat->Live} {H:aV}:aK η q H [] []:=by simp [aK]
theorem BH {η:Nat->Value} {q:Nat->Live} {H:aV} {T:Type} {sz:Nat} {c:T->List SV} (h:∀x,bX (c x)):rel η q H (.sl sz c (λ_=>[])) (N0):=by
 simp only [rel];exact ⟨⟨none,0,rfl,fT _,.inl (by simp)⟩,h⟩
theorem acX {H:aV} (n:Nat):rel (λ_=>.nilIface) (λ_=>.un) H (cA n (.mk 0 0 0 [])) (N0):=by
 cases n with
 | zero=>simp [cA,rel]
 | succ n=>exact BH λy=>(WY n y).1
theorem xF (H:aV) (n:Nat):cQ H (cE n (.mk 0 0 0 [])) [I0,S0,I0,S0,I0,S0,N0]:=by
 refine r7 (by simp [rel,Expr.op]) (r7 (by simp [rel,es]) (r7 (by simp [rel,Expr.k]) (r7 (by simp [rel,es]) (r7 (by simp [rel,Expr.w]) (r7 (by simp [rel,es]) (r7 ?_ MQ))))))
 exact acX n
theorem ahA (H:aV):cQ H (fP []) [N0]:=r7 (BH λy=>(dv y).1) MQ
theorem afY (H:aV):cQ H (zT []) [N0]:=r7 (BH λy=>(qS y).1) MQ
theorem ahB (H:aV):cQ H (lK ⟨[],0,0⟩) [N0,I0,I0]:=r7 (BH λy=>(dv y).1) (by simp [aK,rel])
theorem afZ (H:aV):cQ H (Ns ⟨[],0,0,0,0⟩) [N0,I0,I0,I0,U0]:=r7 (BH λy=>(dv y).1) (by simp [aK,rel])
theorem ahC (H:aV):cQ H (NW ⟨[],0,0,0⟩) [N0,I0,I0,I0]:=r7 (BH λy=>(Lu y).1) (by simp [aK,rel])
theorem RI (H:aV):cQ H (sm ⟨0,es,0⟩) [I0,S0,I0]:=by simp [sm,aK,rel,es]
theorem zE (H:aV) (n:Nat):cQ H ((XR n).c (XR n).z) [I0,S0,I0,S0,I0,S0,N0]:=xF H n
theorem ai1 (H:aV) (n:Nat):cQ H ((Nt n).c (Nt n).z) [S0,I0,I0,I0,S0,I0,S0,I0,S0,N0,I0,S0,I0] :=
 gC (gC (s:=[_,_,_]) (v:=[_,_,_]) (by simp [aK,rel,Nt,es]) (xF H n)) (RI H)
theorem ai2 (H:aV) (n:Nat):cQ H ((Nu n).c (Nu n).z) [S0,I0,I0,I0,S0,I0,S0,I0,S0,N0,
  I0,S0,I0,S0,I0,S0,N0,I0,S0,I0,S0,I0,S0,N0,I0,S0,I0] :=
 gC (gC (gC (gC (s:=[_,_,_]) (v:=[_,_,_]) (by simp [aK,rel,Nu,es]) (xF H n)) (xF H n)) (xF H n)) (RI H)
theorem ahD (H:aV) (n:Nat):cQ H ((Nb n).c (Nb n).z) [I0,I0,I0,S0,I0,S0,I0,S0,N0] :=
 gC (s:=[_,_]) (v:=[_,_]) (by simp [aK,rel,Nb]) (xF H n)
theorem ai3 (H:aV) (n:Nat):cQ H ((Nv n).c (Nv n).z) [I0,I0,I0,S0,I0,S0,I0,S0,N0,I0,S0,I0,S0,I0,S0,N0] :=
 gC (gC (s:=[_,_]) (v:=[_,_]) (by simp [aK,rel,Nv]) (xF H n)) (xF H n)
theorem Nw {T:TypeId->Option TI} (hT:∀t i,tt t=some i->T t=some i) (n m:Nat) (X:Ctx) (h:X.tt=T) (t:TypeId) (E:gL) (he:el n m t=some E):Cb Try.prog X t E:=by
 have h1:∀{t i j},tt t=some j->X.tt t=some i->i=j:=λh2 h3=>by rw [h,hT _ _ h2] at h3;cases h3;rfl
 unfold el at he
 split at he
 all_goals cases he
 all_goals
  refine ⟨⟨_,by rw [h];exact hT _ _ rfl⟩,λi hi x=>?_,?_,λi hi H=>?_⟩
  ·cases h1 rfl hi;first|rfl|(cases n<;>rfl)|(cases m<;>rfl)
  ·first|exact dv|exact ID|exact H5|exact ae3|exact qS|exact Tl|exact r6|exact uD|exact BR|exact acV|exact ad4|exact ae5|exact Lu|exact ad5|exact WY n|exact ae6 m|exact ae7 m|exact ad6 m|exact ae8 m
  ·cases h1 rfl hi;first|exact ahA H|exact afY H|exact ahB H|exact afZ H|exact ahC H|exact zE H n|exact ai1 H m|exact ai2 H m|exact ahD H m|exact ai3 H m|(simp [zS,bK,WX,sR,Va,pr,VL,Jv,M9,jZ,Na,mM,ae4,I4,VM,Jw,acW,EN,aK,rel,Value.cells])
theorem ahE (n m:Nat) (X:Ctx) (h:X.tt=tt) (t:TypeId) (E:gL) (he:el n m t=some E):Cb Try.prog X t E:=Nw (λ_ _ h=>h) n m X h t E he
theorem mixed:Try.prog.follows .mixedOrders=true:=by kernel_rfl
@[reducible] def nK (n m:Nat) (fs:List (Nat × Func)) (sp:List (Nat × Vc.Spec)) (io lp cut row emp:List Nat:=[]):Ctx:=Kd tt (el n m) fs sp io lp cut row emp
theorem ow (n m:Nat) {fs:List (Nat × Func)} {sp:List (Nat × Vc.Spec)} {io lp cut row emp:List Nat} (hf:vm (λf fn=>kJ (PP ()) f fn/\l8 fn=true) fs) (hs:vm (λf S=>dw (PP ()) f S) sp):CB PP (nK n m fs sp io lp cut row emp):=NT WW (ahE n m) mixed hf hs
def tf:TypeId->Option TI
 | 80=>some (ti .other 1 8 .nilFunc)
 | 92=>some (ti .other 1 8 .nilFunc)
 | 98=>some (ti .other 1 8 .nilFunc)
 | 133=>some (ti .other 1 8 .nilFunc)
 | 143=>some (ti .other 1 8 .nilFunc)
 | _=>none
theorem ahF:∀t i,tf t=some i->k9 Try.prog t i:=by
 intro t i h
 unfold tf at h
 split at h
 all_goals cases h
 all_goals exact PY rfl rfl (by kernel_rfl) (by kernel_rfl)
def t2 (t:TypeId):Option TI:=match tt t with
 | some i=>some i
 | none=>tf t
theorem WZ:∀t i,t2 t=some i->k9 Try.prog t i:=by
 intro t i h
 unfold t2 at h
 split at h
 ·rename_i j hj
  cases h
  exact WW t _ hj
 ·exact ahF t i h
theorem af0 (n m:Nat) (X:Ctx) (h:X.tt=t2) (t:TypeId) (E:gL) (he:el n m t=some E):Cb Try.prog X t E:=Nw (λt i h=>by unfold t2;rw [h]) n m X h t E he
@[reducible] def fk (n m:Nat) (fs:List (Nat × Func)) (sp:List (Nat × Vc.Spec)) (io lp cut row emp:List Nat:=[]):Ctx:=Kd t2 (el n m) fs sp io lp cut row emp
theorem fm (n m:Nat) {fs:List (Nat × Func)} {sp:List (Nat × Vc.Spec)} {io lp cut row emp:List Nat} (hf:vm (λf fn=>kJ (PP ()) f fn/\l8 fn=true) fs) (hs:vm (λf S=>dw (PP ()) f S) sp):CB PP (fk n m fs sp io lp cut row emp):=NT WZ (af0 n m) mixed hf hs
def tm:TypeId->Option TI
 | 86=>some (ti (.ptr 91) 1 8 (.pointer none))
 | 91=>some (ti (.st [(34,0,4),(32,4,1),(89,5,1),(39,6,1)]) 7 168 (.agg #[N0,N0,N0,N0,N0,N0,N0]))
 | 109=>some (ti (.arr 4 3) 4 32 (.agg #[I0,I0,I0,I0]))
 | 50=>some (ti (.arr 5 5) 5 5 (.agg #[Y0,Y0,Y0,Y0,Y0]))
 | 68=>some (ti (.arr 4 5) 4 4 (.agg #[Y0,Y0,Y0,Y0]))
 | 23=>some (tS 50)
 | 24=>some (tS 68)
 | 26=>some (ti (.st [(22,0,1),(23,1,1),(24,2,1)]) 3 72 (.agg #[N0,N0,N0]))
 | _=>none
theorem ahG:∀t i,tm t=some i->k9 Try.prog t i:=by
 intro t i h
 unfold tm at h
 split at h
 all_goals cases h
 all_goals exact PY rfl rfl (by kernel_rfl) (by kernel_rfl)
def t3 (t:TypeId):Option TI:=match t2 t with
 | some i=>some i
 | none=>tm t
theorem ahH:∀t i,t3 t=some i->k9 Try.prog t i:=by
 intro t i h
 unfold t3 at h
 split at h
 ·rename_i j hj
  cases h
  exact WZ t _ hj
 ·exact ahG t i h
structure B5 where
 a:Int
 b:Int
 c:Int
 d:Int
 e:Int
structure B4 where
 a:Int
 b:Int
 c:Int
 d:Int
def vq (x:B5):List SV:=[.i .u8 λ_=>x.a,.i .u8 λ_=>x.b,.i .u8 λ_=>x.c,.i .u8 λ_=>x.d,.i .u8 λ_=>x.e]
def vr (x:B4):List SV:=[.i .u8 λ_=>x.a,.i .u8 λ_=>x.b,.i .u8 λ_=>x.c,.i .u8 λ_=>x.d]
theorem IE (x:B5):bX (vq x)/\(vq x).all SV.one=true:=⟨⟨trivial,trivial,trivial,trivial,trivial,trivial⟩,rfl⟩
theorem IF (x:B4):bX (vr x)/\(vr x).all SV.one=true:=⟨⟨trivial,trivial,trivial,trivial,trivial⟩,rfl⟩
def W0:gL:=⟨B5,vq,⟨0,0,0,0,0⟩⟩
def W1:gL:=⟨B4,vr,⟨0,0,0,0⟩⟩
def PZ (n m:Nat):TypeId->Option gL
 | 50=>some W0
 | 68=>some W1
 | t=>el n m t
theorem af1 (n m:Nat) (X:Ctx) (h:X.tt=t3) (t:TypeId) (E:gL) (he:PZ n m t=some E):Cb Try.prog X t E:=by
 unfold PZ at he
 split at he
 ·cases he
  exact ⟨⟨_,by rw [h];rfl⟩,λi hi x=>by rw [h] at hi;cases hi;rfl,IE,λi hi H=>by rw [h] at hi;cases hi;simp [W0,vq,aK,rel,Value.cells]⟩
 ·cases he
  exact ⟨⟨_,by rw [h];rfl⟩,λi hi x=>by rw [h] at hi;cases hi;rfl,IF,λi hi H=>by rw [h] at hi;cases hi;simp [W1,vr,aK,rel,Value.cells]⟩
 ·exact Nw (λt i h=>by unfold t3 t2;rw [h]) n m X h t E he
@[reducible] def cT (n m:Nat) (fs:List (Nat × Func)) (sp:List (Nat × Vc.Spec)) (io lp cut row emp:List Nat:=[]):Ctx:=Kd t3 (PZ n m) fs sp io lp cut row emp
theorem cW (n m:Nat) {fs:List (Nat × Func)} {sp:List (Nat × Vc.Spec)} {io lp cut row emp:List Nat} (hf:vm (λf fn=>kJ (PP ()) f fn/\l8 fn=true) fs) (hs:vm (λf S=>dw (PP ()) f S) sp):CB PP (cT n m fs sp io lp cut row emp):=NT ahH (af1 n m) mixed hf hs
theorem eU {i:Nat} (h:i < 4611686018427387904):IntKind.i64.wrap ((i:Int)+1)=((i+1:Nat):Int):=by rw [eP (by omega) (by omega)];rfl
theorem n0 (i:Nat):(0:Int)<=(i:Int):=LU _
theorem cy {α:Type} {l:List α} {i:Nat} (h:i < l.length):∃x,l[i]?=some x:=⟨_,dE h⟩
def px (n:Net):List SV:=[.sl 3 jZ (λ_=>n.ins),.sl 5 mM (λ_=>n.cg),.sl 3 jZ (λ_=>n.outs),.sl 1 bK (λ_=>n.bf)]
theorem uH (n:Net):bX (px n):=⟨λx=>(r6 x).1,λx=>(uD x).1,λx=>(r6 x).1,λx=>(dv x).1,trivial⟩
def wa (n:Net):Int:=2+n.ins.length+n.cg.length
@[reducible] noncomputable def XS:Vc.Spec where
 α:=Net
 args n:=[.agg (px n)]
 pre n:=n.ins.length<=1000/\n.cg.length<=1000
 res n:=.i .i64 (λ_=>wa n)
noncomputable def cM0 (n m:Nat):Ctx:=cT n m [] []
theorem pv (n m:Nat):CB PP (cM0 n m):=cW n m trivial trivial
theorem af2:dw (PP ()) 49 XS:=by
 refine fH (pv 0 0) (fo Try.func49) (λn=>⟨uH n,trivial⟩) (λn=>trivial) ?_
 rintro ⟨ins,gs,outs,dr⟩ ⟨h1,h2⟩
 have h1:ins.length<=1000:=h1
 have h2:gs.length<=1000:=h2
 have hw:IntKind.i64.wrap (2+(ins.length:Int))=2+ins.length:=eP (by omega) (by omega)
 have hv:IntKind.i64.wrap (IntKind.i64.wrap (2+(ins.length:Int))+gs.length)=wa ⟨ins,gs,outs,dr⟩:=by rw [hw,eP (by omega) (by omega)];rfl
 refine ⟨?_⟩
 cbv
 exact ⟨by have bI:=hv;exact bN⟩
def qf (n:Net) (v:Int):Gate × Bool:=match gJ n.ins.length n.cg v.toNat with
 | some g=>if g.op=7 then (⟨0,0,0,0,0⟩,false) else (g,true)
 | none=>(⟨0,0,0,0,0⟩,false)
structure ahI where
 n:Net
 v:Int
 g:Gate
 b:Bool
@[reducible] noncomputable def OG:Vc.Spec where
 α:=ahI
 args x:=[.agg (px x.n),.i .i64 (λ_=>x.v)]
 pre x:=x.n.ins.length<=1000/\x.n.cg.length<=1000/\0<=x.v/\x.v < wa x.n/\qf x.n x.v=(x.g,x.b)
 res x:=.ca [.agg (mM x.g),.b (λ_=>x.b)]
theorem VN:dw (PP ()) 43 OG:=by
 refine fH (pv 0 0) (fo Try.func43) (λx=>⟨uH x.n,trivial,trivial⟩) (λx=>⟨(uD _).1,trivial,trivial⟩) ?_
 rintro ⟨⟨ins,gs,outs,dr⟩,v,⟨o,a,b,c,d⟩,B⟩ ⟨h1,h2,h3,h4,h5⟩
 have h1:ins.length<=1000:=h1
 have h2:gs.length<=1000:=h2
 have h3:0<=v:=h3
 have h4:v < 2+(ins.length:Int)+gs.length:=h4
 have hw:IntKind.i64.wrap (IntKind.i64.wrap (v - 2) - ins.length)=v - 2 - ins.length:=by rw [eP (n:=v - 2) (by omega) (by omega),eP (by omega) (by omega)]
 have di:v < 2+(ins.length:Int)->(⟨o,a,b,c,d⟩:Gate)=⟨0,0,0,0,0⟩/\B=false:=λh=>by
  have h5:qf ⟨ins,gs,outs,dr⟩ v=(⟨o,a,b,c,d⟩,B):=h5
  unfold qf gJ at h5;rw [if_pos (by show v.toNat < 2+ins.length;omega)] at h5;cases h5;exact ⟨rfl,rfl⟩
 have cf:∀g,2+(ins.length:Int)<=v->gs[(IntKind.i64.wrap (IntKind.i64.wrap (v - 2) - ins.length)).toNat]?=some g->(if g.op=7 then ((⟨0,0,0,0,0⟩,false):Gate × Bool) else (g,true))=(⟨o,a,b,c,d⟩,B):=λg h hg=>by
  have h5:qf ⟨ins,gs,outs,dr⟩ v=(⟨o,a,b,c,d⟩,B):=h5
  unfold qf gJ at h5
  rw [if_neg (by show ¬v.toNat < 2+ins.length;omega)] at h5
  rw [hw,show (v - 2 - (ins.length:Int)).toNat=v.toNat - 2 - ins.length by omega] at hg
  simp only [hg] at h5
  exact h5
 clear h5
 have iA:0<=IntKind.i64.wrap (IntKind.i64.wrap (v - 2) - ins.length)->2+(ins.length:Int)<=v/\(IntKind.i64.wrap (IntKind.i64.wrap (v - 2) - ins.length)).toNat < gs.length:=λh=>by rw [hw] at h ⊢;omega
 refine ⟨?_⟩
 cbv
 refine ⟨λh=>?_,λh=>?_⟩
 ·have aP:IntKind.i64.wrap (IntKind.i64.wrap (v - 2) - ins.length) < 0:=aJ
  rw [hw] at aP
  obtain ⟨e,rfl⟩:=di (by omega)
  cases e
  cbv
  exact ⟨by exact aY⟩
 ·have aP:0<=IntKind.i64.wrap (IntKind.i64.wrap (v - 2) - ins.length):=aJ
  refine (cy (iA aP).2).elim λg hg=>?_
  have iU:=cf g (iA aP).1 hg
  cbv
  refine ⟨g,⟨aP,hg⟩,?_⟩
  cbv
  refine ⟨λh=>?_,λh=>?_⟩
  ·have h7:g.op=7:=aJ
   rw [if_pos h7] at iU
   cases iU
   cbv
   exact ⟨by exact aY⟩
  ·have h7:¬g.op=7:=aJ
   rw [if_neg h7] at iU
   cases iU
   cbv
   refine ⟨_,⟨aP,hg⟩,?_⟩
   cbv
   exact ⟨by exact aY⟩
structure ai4 where
 g:Gate
 l:List Int
@[reducible] noncomputable def XT:Vc.Spec where
 α:=ai4
 args x:=[.agg (mM x.g)]
 pre x:=cR x.g=x.l
 res x:=.sl 1 bK (λ_=>x.l)
theorem ae9 {o a b c d:Int}:(o=1->cR ⟨o,a,b,c,d⟩=[a])/\(¬o=1->o=2\/o=3\/o=4->cR ⟨o,a,b,c,d⟩=[a,b])/\(¬o=1->¬o=2->¬o=3->¬o=4->cR ⟨o,a,b,c,d⟩=[a,b,c]):=by
 refine ⟨λh=>?_,λh k=>?_,λh k1 k2 k3=>?_⟩<;>simp [cR,ku, *]
theorem af3:dw (PP ()) 52 XT:=by
 refine fH (pv 0 0) (fo Try.func52) (λx=>⟨(uD _).1,trivial⟩) (λx=>(λy=>(dv y).1)) ?_
 rintro ⟨⟨o,a,b,c,d⟩,l⟩ hx
 have hx:cR ⟨o,a,b,c,d⟩=l:=hx
 obtain ⟨q1,q2,q3⟩:=ae9 (o:=o) (a:=a) (b:=b) (c:=c) (d:=d)
 rw [hx] at q1 q2 q3
 clear hx
 refine ⟨?_⟩
 cbv
 refine ⟨λh=>?_,λh=>?_⟩
 ·have h1:o=1:=aJ
  have e:=q1 h1
  subst e
  cbv
  exact ⟨by exact aY⟩
 have h1:¬o=1:=aJ
 clear h q1
 cbv
 refine ⟨λh=>?_,λh=>?_⟩
 ·have h2:o=2:=aJ
  have e:=q2 h1 (.inl h2)
  subst e
  cbv
  exact ⟨by exact aY⟩
 have h2:¬o=2:=aJ
 clear h
 cbv
 refine ⟨λh=>?_,λh=>?_⟩
 ·have h2:o=3:=aJ
  have e:=q2 h1 (.inr (.inl h2))
  subst e
  cbv
  exact ⟨by exact aY⟩
 have h3:¬o=3:=aJ
 clear h
 cbv
 refine ⟨λh=>?_,λh=>?_⟩
 ·have h2:o=4:=aJ
  have e:=q2 h1 (.inr (.inr h2))
  subst e
  cbv
  exact ⟨by exact aY⟩
 have h4:¬o=4:=aJ
 have e:=q3 h1 h2 h3 h4
 subst e
 cbv
 exact ⟨by exact aY⟩
@[reducible] noncomputable def XU:Vc.Spec where
 α:=Int
 args x:=[.i .i64 (λ_=>x)]
 pre x:=True
 res x:=.i .i64 (λ_=>((ku x:Nat):Int))
theorem af4:dw (PP ()) 40 XU:=by
 refine fH (pv 0 0) (fo Try.func40) (λx=>⟨trivial,trivial⟩) (λx=>trivial) ?_
 intro o _
 have q1:o=1->(1:Int)=((ku o:Nat):Int):=λh=>by simp [ku,h]
 have q2:¬o=1->o=2\/o=3\/o=4->(2:Int)=((ku o:Nat):Int):=λh k=>by simp [ku,h,k]
 have q3:¬o=1->¬o=2->¬o=3->¬o=4->(3:Int)=((ku o:Nat):Int):=λh k1 k2 k3=>by simp [ku, *]
 refine ⟨?_⟩
 cbv
 refine ⟨λh=>?_,λh=>?_⟩
 ·have h1:o=1:=aJ
  have e:=q1 h1
  exact ⟨by exact aY⟩
 have h1:¬o=1:=aJ
 clear h q1
 cbv
 refine ⟨λh=>?_,λh=>?_⟩
 ·have h2:o=2:=aJ
  have e:=q2 h1 (.inl h2)
  cbv
  exact ⟨by exact aY⟩
 have h2:¬o=2:=aJ
 clear h
 cbv
 refine ⟨λh=>?_,λh=>?_⟩
 ·have h2:o=3:=aJ
  have e:=q2 h1 (.inr (.inl h2))
  cbv
  exact ⟨by exact aY⟩
 have h3:¬o=3:=aJ
 clear h
 cbv
 refine ⟨λh=>?_,λh=>?_⟩
 ·have h2:o=4:=aJ
  have e:=q2 h1 (.inr (.inr h2))
  cbv
  exact ⟨by exact aY⟩
 have h4:¬o=4:=aJ
 have e:=q3 h1 h2 h3 h4
 cbv
 exact ⟨by exact aY⟩
theorem acY (o:Int):ku o<=3:=by
 unfold ku
 split
 ·omega
 ·split<;>omega
@[reducible] noncomputable def Jx:Vc.Spec where
 α:=Gate
 args g:=[.agg (mM g)]
 pre g:=True
 res g:=.sl 1 bK (λ_=>cR g)
noncomputable def cM1 (n m:Nat):Ctx:=cT n m [] [(40,XU)]
theorem ahJ (n m:Nat):CB PP (cM1 n m):=cW n m trivial ⟨af4,trivial⟩
theorem Nx:dw (PP ()) 35 Jx:=by
 refine fH (ahJ 0 0) (fo Try.func35) (λx=>⟨(uD _).1,trivial⟩) (λx=>(λy=>(dv y).1)) ?_
 rintro ⟨o,a,b,c,d⟩ _
 have hk:=acY o
 have hn:(0:Int)<=0/\(0:Int)<=((ku o:Nat):Int)/\((ku o:Nat):Int)<=3:=by omega
 have hl:(([a,b,c]:List Int).take (((ku o:Nat):Int)).toNat).drop (0:Int).toNat=cR ⟨o,a,b,c,d⟩:=by rw [jC];rfl
 refine ⟨?_⟩
 cbv
 refine ⟨o,⟨by exact aY,trivial⟩,?_⟩
 cbv
 refine ⟨[a,b,c],⟨⟨rfl,by exact fj,hn⟩,?_⟩⟩
 cbv
 exact ⟨by have gM:=hl;exact bN⟩
theorem lt4 {j:Nat} (h:j < 4):j=0\/j=1\/j=2\/j=3:=by omega
@[reducible] noncomputable def XV:Vc.Spec where
 α:=Nat
 args j:=[.i .i64 (λ_=>(j:Int))]
 pre j:=j < 4
 res j:=.i .i64 (λ_=>uG j)
theorem af5:dw (PP ()) 42 XV:=by
 refine fH (pv 0 0) (fo Try.func42) (λx=>⟨trivial,trivial⟩) (λx=>trivial) ?_
 intro j hj
 have hj:(j:Nat) < 4:=hj
 rcases lt4 hj with rfl|rfl|rfl|rfl
 ·have e:(43690:Int)=uG 0:=rfl
  refine ⟨?_⟩
  cbv
  refine ⟨0,⟨rfl,by decide,rfl⟩,?_⟩
  cbv
  exact ⟨by exact aY⟩
 ·have e:(52428:Int)=uG 1:=rfl
  refine ⟨?_⟩
  cbv
  refine ⟨1,⟨rfl,by decide,rfl⟩,?_⟩
  cbv
  exact ⟨by exact aY⟩
 ·have e:(61680:Int)=uG 2:=rfl
  refine ⟨?_⟩
  cbv
  refine ⟨2,⟨rfl,by decide,rfl⟩,?_⟩
  cbv
  exact ⟨by exact aY⟩
 ·have e:(65280:Int)=uG 3:=rfl
  refine ⟨?_⟩
  cbv
  refine ⟨3,⟨rfl,by decide,rfl⟩,?_⟩
  cbv
  exact ⟨by exact aY⟩
structure ai5 where
 op:Int
 a:Int
 b:Int
 c:Int
 r:Int
@[reducible] noncomputable def XW:Vc.Spec where
 α:=ai5
 args x:=[.i .i64 (λ_=>x.op),.i .i64 (λ_=>x.a),.i .i64 (λ_=>x.b),.i .i64 (λ_=>x.c)]
 pre x:=combineM x.op x.a x.b x.c=x.r
 res x:=.i .i64 (λ_=>x.r)
theorem af6:dw (PP ()) 44 XW:=by
 refine fH (pv 0 0) (fo Try.func44) (λx=>⟨trivial,trivial,trivial,trivial,trivial⟩) (λx=>trivial) ?_
 rintro ⟨o,a,b,c,R⟩ hx
 have hx:combineM o a b c=R:=hx
 have q1:o=1->fJ .xor .i64 (-1) a=R:=λh=>by rw [<-hx];simp [combineM,h,CG]
 have q2:o=2->fJ .and .i64 a b=R:=λh=>by rw [<-hx];simp [combineM,h,tO]
 have q3:o=3->fJ .or .i64 a b=R:=λh=>by rw [<-hx];simp [combineM,h,AU]
 have q4:o=4->fJ .xor .i64 a b=R:=λh=>by rw [<-hx];simp [combineM,h,CG]
 have q5:o=5->fJ .or .i64 (fJ .and .i64 a b) (fJ .and .i64 (fJ .xor .i64 (-1) a) c)=R:=λh=>by rw [<-hx];simp [combineM,h,AU,tO,CG]
 have q6:¬o=1->¬o=2->¬o=3->¬o=4->¬o=5->fJ .or .i64 (fJ .or .i64 (fJ .and .i64 a b) (fJ .and .i64 a c)) (fJ .and .i64 b c)=R:=λk1 k2 k3 k4 k5=>by rw [<-hx];simp [combineM, *,AU,tO]
 clear hx
 refine ⟨?_⟩
 cbv
 refine ⟨λh=>?_,λh=>?_⟩
 ·have e:=q1 aJ
  cbv
  exact ⟨by exact aY⟩
 have n1:¬o=1:=aJ
 clear h q1
 cbv
 refine ⟨λh=>?_,λh=>?_⟩
 ·have e:=q2 aJ
  cbv
  exact ⟨by exact aY⟩
 have n2:¬o=2:=aJ
 clear h q2
 cbv
 refine ⟨λh=>?_,λh=>?_⟩
 ·have e:=q3 aJ
  cbv
  exact ⟨by exact aY⟩
 have n3:¬o=3:=aJ
 clear h q3
 cbv
 refine ⟨λh=>?_,λh=>?_⟩
 ·have e:=q4 aJ
  cbv
  exact ⟨by exact aY⟩
 have n4:¬o=4:=aJ
 clear h q4
 cbv
 refine ⟨λh=>?_,λh=>?_⟩
 ·have e:=q5 aJ
  cbv
  exact ⟨by exact aY⟩
 have n5:¬o=5:=aJ
 clear h q5
 have e:=q6 n1 n2 n3 n4 n5
 cbv
 exact ⟨by exact aY⟩
structure LV where
 l:List Int
 v:Int
def Aw (l:List Int) (v:Int):Int:=match l.findIdx? (λx=>decide (x=v)) with
 | some i=>i
 | none=>-1
theorem afa {l:List Int} {v:Int} {i:Nat} (h:∀j,j < i->∀x,l[j]?=some x->¬v=x) (hi:l[i]?=some v):(i:Int)=Aw l v:=by
 unfold Aw
 obtain ⟨hl,e⟩:=bh.1 hi
 have:l.findIdx? (λx=>decide (x=v))=some i:=by
  rw [En]
  refine ⟨hl,by simpa using e,λj hj=>?_⟩
  have:=h j hj _ (dE (by omega))
  simp;exact λe=>this e.symm
 rw [this]
theorem afb {l:List Int} {v:Int} (h:∀j,j < l.length->∀x,l[j]?=some x->¬v=x):(-1:Int)=Aw l v:=by
 unfold Aw
 have:l.findIdx? (λx=>decide (x=v))=none:=by
  rw [BL]
  intro x hx
  obtain ⟨j,hj⟩:=pW hx
  have:=h j (bh.1 hj).1 x hj
  simp;exact λe=>this e.symm
 rw [this]
theorem abn (l:List Int) (v:Int):jI 0 (Aw l v)=l.contains v:=by
 unfold Aw jI
 cases h:l.findIdx? (λx=>decide (x=v)) with
 | none =>
  rw [BL] at h
  have:v∉l:=λhm=>by have:=h v hm;simp at this
  simp [this]
 | some i =>
  rw [En] at h
  obtain ⟨hl,hp,_⟩:=h
  simp at hp
  have:v∈l:=hp ▸ L3 hl
  simp [this]
@[reducible] noncomputable def W3:Vc.Spec where
 α:=LV
 args x:=[.sl 1 bK (λ_=>x.l),.i .i64 (λ_=>x.v)]
 pre x:=x.l.length<=1000000000000
 res x:=.i .i64 (λ_=>Aw x.l x.v)
theorem afc:dw (PP ()) 61 W3:=by
 refine fH (pv 0 0) (fo Try.func61) (λa=>⟨λx=>(dv x).1,trivial,trivial⟩) (λa=>trivial) ?_
 rintro ⟨l,v⟩ hx
 have hl:l.length<=1000000000000:=hx
 refine ⟨?_⟩
 cbv
 refine Sat.eI (pv 0 0) 0 5 [] (λi:Nat=>[(6,.sl 1 bK (λ_=>l)),(7,.i .i64 (λ_=>(l.length:Int))),(8,.i .i64 λ_=>(i:Int))]) (λ_=>[]) (λi=>i<=l.length/\∀j,j < i->∀x,l[j]?=some x->¬v=x) (λi=>l.length - i) 0 (by exact aX) (by exact aX) ⟨cP _,λj h=>absurd h (tu _)⟩ ?_
 rintro i ⟨hi,di⟩
 have hi:i<=l.length:=hi
 have h0:=n0 i
 have h1:=eU (i:=i) (by omega)
 cbv
 refine ⟨λh=>?_,λh=>?_⟩
 ·have bU:i < l.length:=aJ
  have cD:l.length - (i+1) < l.length - i:=by omega
  refine (cy bU).elim λx hx=>?_
  cbv
  refine ⟨x,⟨h0,hx⟩,?_⟩
  cbv
  refine ⟨λh=>?_,λh=>?_⟩
  ·have e:v=x:=aJ
   have hr:=afa di (e ▸ hx)
   cbv
   exact ⟨by have bI:=hr;exact bN⟩
  ·have bL:¬v=x:=aJ
   have b9:i+1<=l.length/\∀j,j < i+1->∀x,l[j]?=some x->¬v=x:=⟨bU,λj hj y hy=>by
    by_cases ry:j=i
    ·subst ry;rw [hx] at hy;cases hy;exact bL
    ·exact di j (by omega) y hy⟩
   cbv
   exact ⟨i+1,by exact aX,by exact aX,⟨⟨b9,cD⟩⟩⟩
 ·have cf:¬i < l.length:=by have h:l.length<=i:=aJ;omega
  have hr:=afb (l:=l) (v:=v) λj hj=>di j (by omega)
  cbv
  exact ⟨by have gP:=hr;exact bN⟩
@[reducible] noncomputable def I5:Vc.Spec where
 α:=LV
 args x:=[.sl 1 bK (λ_=>x.l),.i .i64 (λ_=>x.v)]
 pre x:=x.l.length<=1000000000000
 res x:=.b (λ_=>x.l.contains x.v)
noncomputable def cMc (n m:Nat):Ctx:=cT n m [] [(61,W3)]
theorem ahK (n m:Nat):CB PP (cMc n m):=cW n m trivial ⟨afc,trivial⟩
theorem Nc:dw (PP ()) 51 I5:=by
 refine fH (ahK 0 0) (fo Try.func51) (λa=>⟨λx=>(dv x).1,trivial,trivial⟩) (λa=>trivial) ?_
 rintro ⟨l,v⟩ hx
 have hl:l.length<=1000000000000:=hx
 have hr:=abn l v
 refine ⟨?_⟩
 cbv
 refine ⟨⟨l,v⟩,⟨by exact aY,hl⟩,?_⟩
 cbv
 exact ⟨by have nG:=hr;exact bN⟩
structure L2 where
 a:List Int
 b:List Int
@[reducible] noncomputable def OH:Vc.Spec where
 α:=L2
 args x:=[.sl 1 bK (λ_=>x.a),.sl 1 bK (λ_=>x.b)]
 pre x:=x.a.length<=1000000000000/\x.b.length<=1000000000000
 res x:=.b (λ_=>decide (x.a=x.b))
theorem VO:dw (PP ()) 22 OH:=by
 refine fH (pv 0 0) (fo Try.func22) (λa=>⟨λx=>(dv x).1,λx=>(dv x).1,trivial⟩) (λa=>trivial) ?_
 rintro ⟨a,b⟩ hx
 obtain ⟨ha,hb⟩:a.length<=1000000000000/\b.length<=1000000000000:=hx
 refine ⟨?_⟩
 cbv
 refine ⟨λh=>?_,λh=>?_⟩
 ·have bL:¬(a.length:Int)=b.length:=aJ
  have hr:false=decide (a=b):=by rw [eq_comm,decide_eq_false_iff_not];rintro rfl;exact bL rfl
  cbv
  exact ⟨by have eW:=hr;exact bN⟩
 have gx:(a.length:Int)=b.length:=aJ
 have gx:a.length=b.length:=by omega
 clear h
 cbv
 refine Sat.eI (pv 0 0) 0 5 [] (λi:Nat=>[(12,.i .i64 (λ_=>(a.length:Int))),(13,.i .i64 λ_=>(i:Int))]) (λ_=>[]) (λi=>i<=a.length/\a.take i=b.take i) (λi=>a.length - i) 0 (by exact aX) (by exact aX) ⟨cP _,by simp⟩ ?_
 rintro i ⟨hi,he⟩
 have hi:i<=a.length:=hi
 have he:a.take i=b.take i:=he
 have h0:=n0 i
 have h1:=eU (i:=i) (by omega)
 cbv
 refine ⟨λh=>?_,λh=>?_⟩
 ·have bU:i < a.length:=aJ
  have cD:a.length - (i+1) < a.length - i:=by omega
  refine (cy bU).elim λx hx=>?_
  refine (cy (show i < b.length by omega)).elim λy hy=>?_
  cbv
  refine ⟨x,⟨h0,hx⟩,?_⟩
  cbv
  refine ⟨y,⟨h0,hy⟩,?_⟩
  cbv
  refine ⟨λh=>?_,λh=>?_⟩
  ·have bL:¬x=y:=aJ
   have hr:false=decide (a=b):=by rw [eq_comm,decide_eq_false_iff_not];rintro rfl;rw [hx] at hy;cases hy;exact bL rfl
   cbv
   exact ⟨by have eW:=hr;exact bN⟩
  ·have e:x=y:=aJ
   have b9:i+1<=a.length/\a.take (i+1)=b.take (i+1):=⟨bU,by rw [ju,ju,hx,hy,he,e]⟩
   cbv
   exact ⟨i+1,by exact aX,by exact aX,⟨⟨b9,cD⟩⟩⟩
 ·have cf:a.length<=i:=aJ
  have hr:true=decide (a=b):=by
   rw [eq_comm,decide_eq_true_eq]
   rw [jt (by omega),jt (by omega)] at he
   exact he
  cbv
  exact ⟨by have eW:=hr;exact bN⟩
@[reducible] noncomputable def XX:Vc.Spec where
 α:=Int
 args x:=[.i .i64 (λ_=>x)]
 pre x:=True
 res x:=.b (λ_=>false)
theorem af8:dw (PP ()) 72 XX:=by
 refine fH (pv 0 0) (fo Try.func72) (λx=>⟨trivial,trivial⟩) (λx=>trivial) ?_
 intro x _
 have e:(!gG x x)=false:=by simp [gG]
 refine ⟨?_⟩
 cbv
 exact ⟨by have nG:=e;exact bN⟩
def qk (a b:Int):Int:=if a < b then -1 else if b < a then 1 else 0
structure AB where
 a:Int
 b:Int
@[reducible] noncomputable def NX:Vc.Spec where
 α:=AB
 args x:=[.i .i64 (λ_=>x.a),.i .i64 (λ_=>x.b)]
 pre x:=True
 res x:=.i .i64 (λ_=>qk x.a x.b)
noncomputable def ajb (n m:Nat):Ctx:=cT n m [] [(72,XX)]
theorem af9 (n m:Nat):CB PP (ajb n m):=cW n m trivial ⟨af8,trivial⟩
theorem Vd:dw (PP ()) 59 NX:=by
 refine fH (af9 0 0) (fo Try.func59) (λx=>⟨trivial,trivial,trivial⟩) (λx=>trivial) ?_
 rintro ⟨a,b⟩ _
 have q1:a < b->(-1:Int)=qk a b:=λh=>by simp [qk,h]
 have q2:b<=a->b < a->(1:Int)=qk a b:=λk h=>by unfold qk;rw [if_neg (by omega),if_pos h]
 have q3:b<=a->a<=b->(0:Int)=qk a b:=λk h=>by unfold qk;rw [if_neg (by omega),if_neg (by omega)]
 refine ⟨?_⟩
 cbv
 refine ⟨a,⟨by exact aY,trivial⟩,?_⟩
 cbv
 refine ⟨b,⟨by exact aY,trivial⟩,?_⟩
 cbv
 refine ⟨λh=>(by have:=h.out;cases this),λh=>?_⟩
 clear h
 cbv
 refine ⟨λh=>(by have:=h.out;cases this),λh=>?_⟩
 clear h
 cbv
 refine ⟨λh=>?_,λh=>?_⟩
 ·have e:=q1 aJ
  cbv
  exact ⟨by have gP:=e;exact bN⟩
 have n1:b<=a:=aJ
 clear h
 cbv
 refine ⟨λh=>?_,λh=>?_⟩
 ·have e:=q2 n1 aJ
  cbv
  exact ⟨by have gP:=e;exact bN⟩
 have e:=q3 n1 aJ
 cbv
 exact ⟨by have gP:=e;exact bN⟩
def vu:List Int->Int
 | []=>0
 | x :: r=>if x=0 then vu r else x
theorem aga {l:List Int} {x:Int} (hx:¬x=0):∀{i:Nat},l[i]?=some x->(∀j y,j < i->l[j]?=some y->y=0)->x=vu l:=by
 induction l with
 | nil=>intro i h;simp at h
 | cons y r ih =>
  intro i h k
  unfold vu
  cases i with
  | zero=>simp at h;subst h;rw [if_neg hx]
  | succ i=>rw [if_pos (k 0 y (by omega) rfl)];exact ih (by simpa using h) λj z hj hz=>k (j+1) z (by omega) (by simpa using hz)
theorem VP:∀{l:List Int},(∀(j:Nat) (y:Int),l[j]?=some y->y=0)->(0:Int)=vu l
 | [],_=>rfl
 | x :: r,k=>by unfold vu;rw [if_pos (k 0 x rfl)];exact VP λj y hy=>k (j+1) y (by simpa using hy)
@[reducible] noncomputable def XY:Vc.Spec where
 α:=List Int
 args l:=[.sl 1 bK (λ_=>l)]
 pre l:=l.length<=1000000
 res l:=.i .i64 (λ_=>vu l)
theorem agb:dw (PP ()) 58 XY:=by
 refine fH (pv 0 0) (fo Try.func58) (λa=>⟨λx=>(dv x).1,trivial⟩) (λa=>trivial) ?_
 intro l hx
 have hl:l.length<=1000000:=hx
 refine ⟨?_⟩
 cbv
 refine Sat.eI (pv 0 0) 0 5 [] (λi:Nat=>[(6,.sl 1 bK (λ_=>l)),(7,.i .i64 (λ_=>(l.length:Int))),(8,.i .i64 λ_=>(i:Int))]) (λ_=>[]) (λi=>i<=l.length/\∀j y,j < i->l[j]?=some y->y=0) (λi=>l.length - i) 0 (by exact aX) (by exact aX) ⟨cP _,λj y h=>absurd h (tu _)⟩ ?_
 rintro i ⟨hi,di⟩
 have hi:i<=l.length:=hi
 have h0:=n0 i
 have h1:=eU (i:=i) (by omega)
 cbv
 refine ⟨λh=>?_,λh=>?_⟩
 ·have bU:i < l.length:=aJ
  have cD:l.length - (i+1) < l.length - i:=by omega
  refine (cy bU).elim λx hx=>?_
  cbv
  refine ⟨x,⟨h0,hx⟩,?_⟩
  cbv
  refine ⟨λh=>?_,λh=>?_⟩
  ·have bL:¬x=0:=aJ
   have hr:=aga bL hx di
   cbv
   exact ⟨by have bI:=hr;exact bN⟩
  ·have e:x=0:=aJ
   have b9:i+1<=l.length/\∀j y,j < i+1->l[j]?=some y->y=0:=⟨bU,λj y hj hy=>by
    by_cases ry:j=i
    ·subst ry;rw [hx] at hy;cases hy;exact e
    ·exact di j y (by omega) hy⟩
   cbv
   exact ⟨i+1,by exact aX,by exact aX,⟨⟨b9,cD⟩⟩⟩
 ·have cf:l.length<=i:=aJ
  have hr:=VP (l:=l) λj y hy=>di j y (by have:=(bh.1 hy).1;omega) hy
  cbv
  exact ⟨by have gP:=hr;exact bN⟩
@[reducible] noncomputable def XZ:Vc.Spec where
 α:=L2
 args x:=[.sl 1 bK (λ_=>x.a),.sl 1 bK (λ_=>x.b)]
 pre x:=x.a.length<=1000000/\x.b.length<=1000000
 res x:=.i .i64 (λ_=>fI x.a x.b)
theorem acZ {a b:List Int} {i:Nat} {x:Int} (hx:a[i]?=some x) (h:fI (a.drop i) (b.drop i)=fI a b):(b.length<=i->(1:Int)=fI a b)/\∀y,b[i]?=some y->(¬qk x y=0->qk x y=fI a b)/\(qk x y=0->fI (a.drop (i+1)) (b.drop (i+1))=fI a b):=by
 obtain ⟨bU,hx⟩:=bh.1 hx
 rw [qN bU,hx] at h
 refine ⟨λhb=>?_,λy hy=>?_⟩
 ·rw [HA hb] at h
  rw [<-h];rfl
 ·obtain ⟨jk,hy⟩:=bh.1 hy
  rw [qN jk,hy] at h
  rw [<-h]
  have e:∀A B:List Int,fI (x :: A) (y :: B)=if x < y then -1 else if y < x then 1 else fI A B:=λ_ _=>rfl
  rw [e]
  unfold qk
  by_cases h1:x < y
  ·simp [h1]
  ·by_cases h2:y < x
   ·simp [h1,h2]
   ·simp [h1,h2]
theorem ad7 {a b:List Int} {i:Nat} (hi:a.length<=i) (j6:i<=a.length) (h:fI (a.drop i) (b.drop i)=fI a b):((a.length:Int) < b.length->(-1:Int)=fI a b)/\((b.length:Int)<=a.length->(0:Int)=fI a b):=by
 rw [HA hi] at h
 rw [<-h]
 refine ⟨λhb=>?_,λhb=>?_⟩
 ·rw [qN (show i < b.length by omega)];rfl
 ·rw [HA (by omega)];rfl
noncomputable def ajc (n m:Nat):Ctx:=cT n m [] [(59,NX)]
theorem VQ (n m:Nat):CB PP (ajc n m):=cW n m trivial ⟨Vd,trivial⟩
theorem agc:dw (PP ()) 60 XZ:=by
 refine fH (VQ 0 0) (fo Try.func60) (λa=>⟨λx=>(dv x).1,λx=>(dv x).1,trivial⟩) (λa=>trivial) ?_
 rintro ⟨a,b⟩ hx
 obtain ⟨ha,hb⟩:a.length<=1000000/\b.length<=1000000:=hx
 refine ⟨?_⟩
 cbv
 refine Sat.eI (VQ 0 0) 0 5 [] (λi:Nat=>[(9,.sl 1 bK (λ_=>a)),(10,.i .i64 (λ_=>(a.length:Int))),(11,.i .i64 λ_=>(i:Int))]) (λ_=>[]) (λi=>i<=a.length/\fI (a.drop i) (b.drop i)=fI a b) (λi=>a.length - i) 0 (by exact aX) (by exact aX) ⟨cP _,by simp⟩ ?_
 rintro i ⟨hi,he⟩
 have hi:i<=a.length:=hi
 have he:fI (a.drop i) (b.drop i)=fI a b:=he
 have h0:=n0 i
 have h1:=eU (i:=i) (by omega)
 cbv
 refine ⟨λh=>?_,λh=>?_⟩
 ·have bU:i < a.length:=aJ
  have cD:a.length - (i+1) < a.length - i:=by omega
  refine (cy bU).elim λx hx=>?_
  have AD:=acZ hx he
  cbv
  refine ⟨x,⟨h0,hx⟩,?_⟩
  cbv
  refine ⟨λh=>?_,λh=>?_⟩
  ·have e:=AD.1 aJ
   cbv
   exact ⟨by have gP:=e;exact bN⟩
  have jk:i < b.length:=aJ
  refine (cy jk).elim λy hy=>?_
  have J5:=AD.2 y hy
  clear h
  cbv
  refine ⟨y,⟨h0,hy⟩,?_⟩
  cbv
  refine ⟨⟨x,y⟩,⟨by exact aY,trivial⟩,?_⟩
  cbv
  refine ⟨λh=>?_,λh=>?_⟩
  ·have e:=J5.1 aJ
   cbv
   exact ⟨by have bI:=e;exact bN⟩
  ·have e:=J5.2 aJ
   have b9:i+1<=a.length/\fI (a.drop (i+1)) (b.drop (i+1))=fI a b:=⟨bU,e⟩
   cbv
   exact ⟨i+1,by exact aX,by exact aX,⟨⟨b9,cD⟩⟩⟩
 ·have cf:a.length<=i:=aJ
  have q:=ad7 cf hi he
  cbv
  refine ⟨λh=>?_,λh=>?_⟩
  ·have e:=q.1 aJ
   cbv
   exact ⟨by have gP:=e;exact bN⟩
  ·have e:=q.2 aJ
   cbv
   exact ⟨by have gP:=e;exact bN⟩
@[reducible] noncomputable def OI:Vc.Spec where
 α:=L2
 args x:=[.sl 1 bK (λ_=>x.a),.sl 1 bK (λ_=>x.b)]
 pre x:=x.a.length<=1000000/\x.b.length<=1000000
 res x:=.i .i64 (λ_=>iG x.a x.b)
theorem afd (a b:List Int):vu [qk a.length b.length,fI a b]=iG a b:=by
 unfold vu qk iG vu
 by_cases h1:a.length < b.length
 ·rw [if_pos (by omega:(a.length:Int) < b.length),if_pos h1];rfl
 ·by_cases h2:b.length < a.length
  ·rw [if_neg (by omega:¬(a.length:Int) < b.length),if_pos (by omega:(b.length:Int) < a.length),if_neg h1,if_pos h2];rfl
  ·rw [if_neg (by omega:¬(a.length:Int) < b.length),if_neg (by omega:¬(b.length:Int) < a.length),if_neg h1,if_neg h2,if_pos rfl]
   split
   ·rename_i e;rw [e];rfl
   ·rfl
noncomputable def ajd (n m:Nat):Ctx:=cT n m [] [(59,NX),(60,XZ),(58,XY)]
theorem agd (n m:Nat):CB PP (ajd n m):=cW n m trivial ⟨Vd,agc,agb,trivial⟩
theorem age:dw (PP ()) 57 OI:=by
 refine fH (agd 0 0) (fo Try.func57) (λa=>⟨λx=>(dv x).1,λx=>(dv x).1,trivial⟩) (λa=>trivial) ?_
 rintro ⟨a,b⟩ hx
 have gx:a.length<=1000000/\b.length<=1000000:=hx
 obtain ⟨A,hA⟩:∃A:Int,(a.length:Int)=A:=⟨_,rfl⟩
 obtain ⟨B,hB⟩:∃B:Int,(b.length:Int)=B:=⟨_,rfl⟩
 obtain ⟨U,hU⟩:∃U:Int,qk A B=U:=⟨_,rfl⟩
 obtain ⟨V,hV⟩:∃V:Int,fI a b=V:=⟨_,rfl⟩
 have e:vu [U,V]=iG a b:=by rw [<-hU,<-hV,<-hA,<-hB];exact afd a b
 have h2:([U,V]:List Int).length<=1000000:=by show 2<=1000000;decide
 refine ⟨?_⟩
 cbv
 refine ⟨⟨A,B⟩,⟨by have bI:=hA;have iK:=hB;exact bN,trivial⟩,?_⟩
 cbv
 refine ⟨⟨a,b⟩,⟨by exact aY,gx⟩,?_⟩
 cbv
 refine ⟨[U,V],⟨.inl ⟨by have bI:=hU;have iK:=hV;exact bN,rfl⟩,h2⟩,?_⟩
 cbv
 exact ⟨by have bI:=e;exact bN⟩
def Jy (n:Net) (s:dV):List SV:=[.sl 3 jZ (λ_=>n.ins),.sl 5 mM (λ_=>n.cg),.sl 3 jZ (λ_=>n.outs),.sl 1 bK (λ_=>n.bf),.sl 1 bK (λ_=>s.labels),.sl 1 zT (λ_=>s.gv),.sl 1 fP (λ_=>s.leaves)]
theorem Ve (n:Net) (s:dV):bX (Jy n s):=⟨λx=>(r6 x).1,λx=>(uD x).1,λx=>(r6 x).1,λx=>(dv x).1,λx=>(dv x).1,λx=>(Tl x).1,λx=>(qS x).1,trivial⟩
structure aje where
 n:Net
 s:dV
 l:List Int
structure kN (L l:List Int):Prop where
 len:l.length<=1000000
 mem:∀v∈l,0<=v/\v < L.length
 gW:∀x∈L,0<=x/\x<=1000000
theorem kN.le {L l:List Int} (h:kN L l):0<=cd L l/\cd L l<=1000000:=by
 refine ⟨xO L l,xD (by decide) λv hv=>?_⟩
 have hb:=h.mem v hv
 rw [List.getD_eq_getElem?_getD,dE (show v.toNat < L.length by omega)]
 exact (h.gW _ (L3 _)).2
theorem R5 {L l:List Int} {i:Nat} {v x:Int} (hv:l[i]?=some v) (hx:L[v.toNat]?=some x):max (cd L (l.take i)) x=cd L (l.take (i+1)):=by
 unfold cd
 rw [ju,hv,nX,List.foldl_append,mA,Ed,List.getD_eq_getElem?_getD,hx]
 rfl
@[reducible] noncomputable def FD:Vc.Spec where
 α:=aje
 args x:=[.dg (Jy x.n x.s) 0,.sl 1 bK (λ_=>x.l)]
 pre x:=kN x.s.labels x.l
 res x:=.i .i64 (λ_=>cd x.s.labels x.l)
theorem IG:dw (PP ()) 48 FD:=by
 refine fH (pv 0 0) (fo Try.func48) (λa=>⟨Ve a.n a.s,λx=>(dv x).1,trivial⟩) (λa=>trivial) ?_
 rintro ⟨n,⟨L,C,F⟩,l⟩ hx
 have hx:kN L l:=hx
 have kC:=hx.len
 have P0:cd L (l.take 0)=0:=rfl
 refine ⟨?_⟩
 cbv
 refine Sat.eI (pv 0 0) 0 5 [] (λi:Nat=>[(5,.i .i64 (λ_=>cd L (l.take i))),(8,.sl 1 bK (λ_=>l)),(9,.i .i64 (λ_=>(l.length:Int))),(10,.i .i64 λ_=>(i:Int))]) (λ_=>[]) (λi=>i<=l.length) (λi=>l.length - i) 0 (by have gP:=P0.symm;exact bp) (by exact aX) (cP _) ?_
 intro i hi
 have hi:i<=l.length:=hi
 have h0:=n0 i
 have h1:=eU (i:=i) (by omega)
 cbv
 refine ⟨λh=>?_,λh=>?_⟩
 ·have bU:i < l.length:=aJ
  have cD:l.length - (i+1) < l.length - i:=by omega
  refine (cy bU).elim λv hv=>?_
  have hb:=hx.mem v (cN hv)
  refine (cy (l:=L) (i:=v.toNat) (by omega)).elim λx lT=>?_
  have db:=R5 hv lT
  have kD:=hb.1
  cbv
  refine ⟨v,⟨h0,hv⟩,?_⟩
  cbv
  refine ⟨x,⟨kD,lT⟩,?_⟩
  cbv
  exact ⟨i+1,by have bI:=db;have iK:=h1;exact bp,by exact aX,⟨⟨bU,cD⟩⟩⟩
 ·have cf:l.length<=i:=aJ
  have hr:cd L (l.take i)=cd L l:=by rw [jt cf]
  cbv
  exact ⟨by have bI:=hr;exact bN⟩
theorem Mu {f:List Int->Int} {x:List Int}:∀{r:List (List Int)} {m:List Int},iQ f m (r++[x])=if f x - f (iQ f m r) < 0 then x else iQ f m r
 | [],m=>by
  show (if f x - f m < 0 then iQ f x [] else iQ f m [])=_
  rfl
 | y :: r,m=>by
  show (if f y - f m < 0 then iQ f y (r++[x]) else iQ f m (r++[x]))=if f x - f (if f y - f m < 0 then iQ f y r else iQ f m r) < 0 then x else (if f y - f m < 0 then iQ f y r else iQ f m r)
  by_cases hc:f y - f m < 0
  ·rw [if_pos hc,if_pos hc];exact Mu
  ·rw [if_neg hc,if_neg hc];exact Mu
end Go.Proofs.Pk
