import Derived.Test.YthnhbemmlfaihaaC13
import Derived.Test.YthnhbemmlfaihaaC14
import Derived.Test.YthnhbemmlfaihaaProg
set_option linter.unusedVariables false
set_option linter.unusedSimpArgs false
set_option maxRecDepth 10000
set_option maxHeartbeats 64000000
namespace Go.Proofs.Pk
open Go Go.Vc
theorem Hv {I:Nat} {R:List Int} (hR:fY R) (gS:∀r∈R,2+(I:Int)<=r) {v s:Int}:fD I R v=some s↔(0<=v/\v < 2+I/\s=v)\/∃i:Nat,R[i]?=some v/\s=2+I+i:=by
 unfold fD
 split
 ·rename_i h
  constructor
  ·intro e;simp at e;exact .inl ⟨h.1,h.2,e.symm⟩
  ·rintro (⟨_,_,e⟩|⟨i,hi,e⟩)
   ·rw [e]
   ·have:=gS v (cL hi);omega
 ·rename_i h
  constructor
  ·intro e
   rw [DL] at e
   obtain ⟨i,hi,rfl⟩:=e
   rw [DH] at hi
   obtain ⟨hl,hi,_⟩:=hi
   simp at hi
   exact .inr ⟨i,by rw [eB hl,hi],rfl⟩
  ·rintro (⟨h1,h2,_⟩|⟨i,hi,rfl⟩)
   ·exact absurd ⟨h1,h2⟩ h
   ·rw [DL]
    refine ⟨i,?_,rfl⟩
    obtain ⟨hl,hi⟩:=bq.1 hi
    rw [DH]
    refine ⟨hl,by simpa using hi,λj hj=>?_⟩
    have:=(rA.1 hR) j i (by omega) hl hj
    simp;omega
theorem Ru {N:Int}:∀{last:Int} {R:List Int},mr N last R=true->fY R/\∀r∈R,last < r/\r < N
 | _,[],_=>⟨.nil,by simp⟩
 | last,r :: rs,h=>by
  simp only [mr,cf,decide_eq_true_eq] at h
  obtain ⟨h1,h2⟩:=h
  obtain ⟨h3,h4⟩:=Ru h2
  refine ⟨eS.2 ⟨λx hx=>(h4 x hx).1,h3⟩,λx hx=>?_⟩
  rcases cj.1 hx with rfl|hx
  ·exact h1
  ·have:=h4 x hx;omega
theorem RY {sig:Int->Option Int}:∀{D E:List Int},E.length=D.length->nQ sig D E=true->E=D.map λv=>(sig v).getD 0
 | [],[],_,_=>rfl
 | [],_ :: _,h,_=>by simp at h
 | _ :: _,[],h,_=>by simp at h
 | d :: D,e :: E,h,k=>by
  simp only [nQ,cf,decide_eq_true_eq] at k
  rw [il,k.1,<-RY (by simpa using h) k.2]
  rfl
theorem Q5 {sig:Int->Option Int}:∀{D E:List Int},E.length=D.length->nQ sig D E=true->∀d∈D,∃s,sig d=some s
 | [],_,_,_=>by simp
 | _ :: _,[],h,_=>by simp at h
 | d :: D,e :: E,h,k=>by
  simp only [nQ,cf,decide_eq_true_eq] at k
  intro x hx
  rcases cj.1 hx with rfl|hx
  ·exact ⟨e,k.1⟩
  ·exact Q5 (by simpa using h) k.2 x hx
theorem abI {x y:Cell}:BB x y=true↔x=y:=by
 unfold BB
 cases x;cases y
 simp only [cf,decide_eq_true_eq,Cell.mk.injEq]
 constructor
 ·rintro ⟨⟨a,b⟩,c⟩;exact ⟨c,a,b⟩
 ·rintro ⟨a,b,c⟩;exact ⟨⟨b,c⟩,a⟩
theorem Rv {I:Nat} {gs:List Gate} {sig:Int->Option Int}:∀{C:List Cell} {R:List Int} {L:List (List Int)},mq I gs sig C R L=true->∀(j:Nat) (x:Cell) (r:Int) (l:List Int),C[j]?=some x->R[j]?=some r->L[j]?=some l ->
  (cellOf I gs r l sig).2=0/\x=(cellOf I gs r l sig).1
 | x :: C,r :: R,l :: L,h,j,x',r',l',hx,hr,hl=>by
  simp only [mq,cf,decide_eq_true_eq] at h
  cases j with
  | zero =>
   simp at hx hr hl
   subst hx;subst hr;subst hl
   exact ⟨h.1.1,abI.1 h.1.2⟩
  | succ j=>exact Rv h.2 j x' r' l' (by simpa using hx) (by simpa using hr) (by simpa using hl)
 | [],_,_,_,j,x',r',l',hx,_,_=>by simp at hx
 | _ :: _,[],_,_,j,x',r',l',_,hr,_=>by simp at hr
 | _ :: _,_ :: _,[],_,j,x',r',l',_,_,hl=>by simp at hl
theorem abJ {I:Nat} {gs:List Gate} {r:Int} {l:List Int} {sig:Int->Option Int} (h:(cellOf I gs r l sig).2=0):(mw sig l).2=true/\(cellOf I gs r l sig).1.ins=l.map λx=>(sig x).getD 0:=by
 unfold cellOf at h ⊢
 split
 ·rename_i ha
  refine ⟨ha,?_⟩
  have:=GV (KL ha)
  cases fV I gs r.toNat with
  | none=>simp only;rw [this]
  | some g =>
   simp only
   split
   ·rw [this]
   ·split
    ·rw [this]
    ·rw [this]
 ·rename_i ha
  rw [if_neg ha] at h
  simp at h
structure BD (I:Nat) (gs:List Gate) (bf:List Int) (m:ec) (c:kp):Prop where
 n:m.n=I
 rl:c.root.length=m.cells.length
 ll:c.leaves.length=m.cells.length
 dl:m.bf.length=bf.length
 inc:fY c.root
 lim:∀r∈c.root,2+(I:Int)<=r/\r < 2+I+gs.length
 cell:∀(j:Nat) (x:Cell) (r:Int) (l:List Int),m.cells[j]?=some x->c.root[j]?=some r->c.leaves[j]?=some l->(cellOf I gs r l (fD I c.root)).2=0/\x=(cellOf I gs r l (fD I c.root)).1
 Ps:m.bf=bf.map λv=>(fD I c.root v).getD 0
 Xd:∀d∈bf,∃s,fD I c.root d=some s
theorem aci {I:Nat} {gs:List Gate} {bf:List Int} {m:ec} {c:kp} (h:BC I gs bf m c=true):BD I gs bf m c:=by
 unfold BC at h
 simp only [cf,decide_eq_true_eq] at h
 obtain ⟨⟨⟨⟨h1,h2⟩,h3⟩,h4⟩,h5,h6,h7⟩:=h
 obtain ⟨h8,h9⟩:=Ru h5
 exact ⟨h1,h2,h3,h4,h8,λr hr=>by have:=h9 r hr;omega,Rv h6,RY h4 h7,Q5 h4 h7⟩
structure l6 where
 ins:Int->Option Unit
 rch:Int->Option Unit
def xW (f:Int->Option Unit) (v:Int):Int->Option Unit:=λj=>if j=v then some () else f j
theorem y7 {f:Int->Option Unit} {v u:Int}:(xW f v u).isSome=true↔u=v\/(f u).isSome=true:=by
 unfold xW
 by_cases h:u=v
 ·simp [h]
 ·simp [h]
def zY (S:List Int) (st:l6) (x:Int):Prop:=(x∈S/\(st.rch x).isSome=true)\/(x∉S/\(x < 2\/(st.ins x).isSome=true))
theorem zY.mono {S:List Int} {st cM:l6} (h1:∀u,(st.ins u).isSome=true->(cM.ins u).isSome=true) (h2:∀u,(st.rch u).isSome=true->(cM.rch u).isSome=true) {x:Int} (h:zY S st x):zY S cM x:=by
 rcases h with ⟨a,b⟩|⟨a,b|b⟩
 ·exact .inl ⟨a,h2 _ b⟩
 ·exact .inr ⟨a,.inl b⟩
 ·exact .inr ⟨a,.inr (h1 _ b)⟩
structure BM (I:Nat) (gs:List Gate) (S:List Int) (st:l6) (u:Int):Prop where
 gate:∃g,fV I gs u.toNat=some g/\g.op≠7
 ch:∀x∈pw I gs S u.toNat,zY S st x
theorem BM.mono {I:Nat} {gs:List Gate} {S:List Int} {st cM:l6} (h1:∀u,(st.ins u).isSome=true->(cM.ins u).isSome=true) (h2:∀u,(st.rch u).isSome=true->(cM.rch u).isSome=true) {u:Int} (h:BM I gs S st u):BM I gs S cM u :=
 ⟨h.gate,λx hx=>(h.ch x hx).mono h1 h2⟩
structure my (I:Nat) (gs:List Gate) (S:List Int) (st:l6) (v:Int) (res:Bool) (cM:l6):Prop where
 mI:∀u,(st.ins u).isSome=true->(cM.ins u).isSome=true
 mR:∀u,(st.rch u).isSome=true->(cM.rch u).isSome=true
 nI:∀u,(cM.ins u).isSome=true->(st.ins u).isSome=true\/∃w:Nat,u=w/\gy I gs S v.toNat w/\u∉S/\2<=u
 nR:∀u,(cM.rch u).isSome=true->(st.rch u).isSome=true\/∃w:Nat,u=w/\gy I gs S v.toNat w/\u∈S
 yes:res=true->zY S cM v/\∀u,(cM.ins u).isSome=true->(st.ins u).isSome=true\/BM I gs S cM u
 no:res=false->∃w:Nat,gy I gs S v.toNat w/\oI I gs S w=false
structure qO (I:Nat) (gs:List Gate) (S:List Int) (st:l6) (v:Int) (ops:List Int) (j:Nat) (cM:l6):Prop where
 le:j<=ops.length
 mI:∀u,(st.ins u).isSome=true->(cM.ins u).isSome=true
 mR:∀u,(st.rch u).isSome=true->(cM.rch u).isSome=true
 nI:∀u,(cM.ins u).isSome=true->(st.ins u).isSome=true\/∃w:Nat,u=w/\gy I gs S v.toNat w/\u∉S/\2<=u
 nR:∀u,(cM.rch u).isSome=true->(st.rch u).isSome=true\/∃w:Nat,u=w/\gy I gs S v.toNat w/\u∈S
 vi:(cM.ins v).isSome=true
 ch:∀i x,i < j->ops[i]?=some x->zY S cM x
 nw:∀u,(cM.ins u).isSome=true->(st.ins u).isSome=true\/u=v\/BM I gs S cM u
section
variable {I:Nat} {gs:List Gate} {S:List Int} {st cM:l6} {v:Int}
theorem my.leaf (hv:0<=v) (hm:v∈S):my I gs S st v true ⟨st.ins,xW st.rch v⟩ where
 mI _ h:=h
 mR _ h:=y7.2 (.inr h)
 nI _ h:=.inl h
 nR u h:=by
  rcases y7.1 h with rfl|h
  ·exact .inr ⟨u.toNat,by omega,.base rfl,hm⟩
  ·exact .inl h
 yes _:=⟨.inl ⟨hm,y7.2 (.inl rfl)⟩,λu h=>.inl h⟩
 no h:=by cases h
theorem my.known (hm:v∉S) (h:v < 2\/(st.ins v).isSome=true):my I gs S st v true st where
 mI _ h:=h
 mR _ h:=h
 nI _ h:=.inl h
 nR _ h:=.inl h
 yes _:=⟨.inr ⟨hm,h⟩,λu h=>.inl h⟩
 no h:=by cases h
theorem ado {w:Nat} (h1:(w:Int)∉S) (h2:2<=w) (h3:∀g,fV I gs w=some g->g.op=7):oI I gs S w=false:=by
 cases h:oI I gs S w with
 | false=>rfl
 | true =>
  rcases yV.1 h with h|h|⟨g,hg,h7⟩
  ·exact absurd h h1
  ·omega
  ·exact absurd (h3 g hg) h7
theorem my.bad (hv:2<=v) (hm:v∉S) (h:∀g,fV I gs v.toNat=some g->g.op=7):my I gs S st v false st where
 mI _ h:=h
 mR _ h:=h
 nI _ h:=.inl h
 nR _ h:=.inl h
 yes h:=by cases h
 no _:=⟨v.toNat,.base rfl,ado (by rw [Int.toNat_of_nonneg (by omega)];exact hm) (by omega) h⟩
theorem qO.start (hv:2<=v) (hm:v∉S) (ops:List Int):qO I gs S st v ops 0 ⟨xW st.ins v,st.rch⟩ where
 le:=cK _
 mI _ h:=y7.2 (.inr h)
 mR _ h:=h
 nI u h:=by
  rcases y7.1 h with rfl|h
  ·exact .inr ⟨u.toNat,by omega,.base rfl,hm,hv⟩
  ·exact .inl h
 nR _ h:=.inl h
 vi:=y7.2 (.inl rfl)
 ch i x h:=by omega
 nw u h:=by
  rcases y7.1 h with rfl|h
  ·exact .inr (.inl rfl)
  ·exact .inl h
theorem Ea {x:Int} (hx:x∈pw I gs S v.toNat) {w:Nat} (h:gy I gs S x.toNat w):gy I gs S v.toNat w :=
 h.mono λu hu=>by subst hu;exact .step (.base rfl) hx
theorem qO.step {ops:List Int} {j:Nat} {x:Int} {tO:l6} (h:qO I gs S st v ops j cM) (hj:ops[j]?=some x) (hx:x∈pw I gs S v.toNat) (k:my I gs S cM x true tO):qO I gs S st v ops (j+1) tO where
 le:=(bq.1 hj).1
 mI u hu:=k.mI u (h.mI u hu)
 mR u hu:=k.mR u (h.mR u hu)
 nI u hu:=by
  rcases k.nI u hu with hu|⟨w,a,b,c⟩
  ·exact h.nI u hu
  ·exact .inr ⟨w,a,Ea hx b,c⟩
 nR u hu:=by
  rcases k.nR u hu with hu|⟨w,a,b,c⟩
  ·exact h.nR u hu
  ·exact .inr ⟨w,a,Ea hx b,c⟩
 vi:=k.mI v h.vi
 ch i y hi hy:=by
  by_cases e:i=j
  ·subst e;rw [hj] at hy;cases hy;exact (k.yes rfl).1
  ·exact (h.ch i y (by omega) hy).mono k.mI k.mR
 nw u hu:=by
  rcases (k.yes rfl).2 u hu with hu|hu
  ·rcases h.nw u hu with hu|hu|hu
   ·exact .inl hu
   ·exact .inr (.inl hu)
   ·exact .inr (.inr (hu.mono k.mI k.mR))
  ·exact .inr (.inr hu)
theorem qO.fail {ops:List Int} {j:Nat} {x:Int} {tO:l6} (h:qO I gs S st v ops j cM) (hx:x∈pw I gs S v.toNat) (k:my I gs S cM x false tO):my I gs S st v false tO where
 mI u hu:=k.mI u (h.mI u hu)
 mR u hu:=k.mR u (h.mR u hu)
 nI u hu:=by
  rcases k.nI u hu with hu|⟨w,a,b,c⟩
  ·exact h.nI u hu
  ·exact .inr ⟨w,a,Ea hx b,c⟩
 nR u hu:=by
  rcases k.nR u hu with hu|⟨w,a,b,c⟩
  ·exact h.nR u hu
  ·exact .inr ⟨w,a,Ea hx b,c⟩
 yes h:=by cases h
 no _:=by
  obtain ⟨w,a,b⟩:=k.no rfl
  exact ⟨w,Ea hx a,b⟩
theorem qO.fin {ops:List Int} {j:Nat} (h:qO I gs S st v ops j cM) (hj:ops.length<=j) (hm:v∉S) {g:Gate} (hg:fV I gs v.toNat=some g) (h7:g.op≠7) (ho:ops=cI g):my I gs S st v true cM where
 mI:=h.mI
 mR:=h.mR
 nI:=h.nI
 nR:=h.nR
 yes _:=⟨.inr ⟨hm,.inr h.vi⟩,λu hu=>by
  rcases h.nw u hu with hu|rfl|hu
  ·exact .inl hu
  ·refine .inr ⟨⟨g,hg,h7⟩,λx hx=>?_⟩
   obtain ⟨-,g',kG,-,hx⟩:=qH.1 hx
   rw [hg] at kG;cases kG
   obtain ⟨i,hi⟩:=qC hx
   rw [<-ho] at hi
   exact h.ch i x (by have:=(bq.1 hi).1;omega) hi
  ·exact .inr hu⟩
 no h:=by cases h
end
structure Iq (I:Nat) (gs:List Gate) (S:List Int) (root:Int) (st:l6):Prop where
 ins:∀u:Int,(st.ins u).isSome=true↔2<=u/\gy I gs S root.toNat u.toNat/\u∉S
 rch:∀u:Int,(st.rch u).isSome=true↔0<=u/\gy I gs S root.toNat u.toNat/\u∈S
 Xe:∀w:Nat,gy I gs S root.toNat w->oI I gs S w=true
theorem Iq.of {I:Nat} {gs:List Gate} (G:cv I gs) {S:List Int} {root:Int} (hr:2<=root) {st:l6} (h:my I gs S ⟨λ_=>none,λ_=>none⟩ root true st):Iq I gs S root st:=by
 obtain ⟨hc,hn⟩:=h.yes rfl
 have hd:∀u,(st.ins u).isSome=true->BM I gs S st u:=λu hu=>(hn u hu).resolve_left (by simp)
 have N6:∀w:Nat,gy I gs S root.toNat w->zY S st w:=λw hw=>by
  induction hw with
  | base e=>rw [e,Int.toNat_of_nonneg (by omega)];exact hc
  | @step u x _ hx ih =>
   have jW:=Ei G hx
   have hum:=(qH.1 hx).1
   obtain ⟨-,g,hg,-⟩:=qH.1 hx
   obtain ⟨i,rfl,-⟩:=pH.1 hg
   rcases ih with ⟨a,_⟩|⟨_,a|a⟩
   ·exact absurd a hum
   ·omega
   ·rw [Int.toNat_of_nonneg jW.1]
    exact (hd _ a).ch x (by rw [jw];exact hx)
 refine ⟨λu=>⟨λhu=>?_,λ⟨h2,hu,hm⟩=>?_⟩,λu=>⟨λhu=>?_,λ⟨h0,hu,hm⟩=>?_⟩,λw hw=>?_⟩
 ·rcases h.nI u hu with hu|⟨w,rfl,a,b,c⟩
  ·simp at hu
  ·exact ⟨c,by rw [jw];exact a,b⟩
 ·have:=N6 _ hu
  rw [Int.toNat_of_nonneg (by omega)] at this
  rcases this with ⟨a,_⟩|⟨_,a|a⟩
  ·exact absurd a hm
  ·omega
  ·exact a
 ·rcases h.nR u hu with hu|⟨w,rfl,a,b⟩
  ·simp at hu
  ·exact ⟨by omega,by rw [jw];exact a,b⟩
 ·have:=N6 _ hu
  rw [Int.toNat_of_nonneg h0] at this
  rcases this with ⟨_,a⟩|⟨a,_⟩
  ·exact a
  ·exact absurd hm a
 ·refine yV.2 ?_
  rcases N6 w hw with ⟨a,_⟩|⟨_,a|a⟩
  ·exact .inl a
  ·exact .inr (.inl (by omega))
  ·have:=(hd _ a).gate
   rw [jw] at this
   exact .inr (.inr this)
theorem adp {I:Nat} {gs:List Gate} (G:cv I gs) {S:List Int} {root:Int} {w:Nat} (hw:gy I gs S root.toNat w) (hg:oI I gs S w=false):gV I gs root S=none:=by
 unfold gV
 split
 ·simp only
  rw [if_neg]
  simp only [cf,not_and]
  intro h
  have:=gK.1 h w (lR.2 (by have:=gy.le G hw;omega))
  rw [(sW G).2 hw,hg] at this
  cases this
 ·rfl
theorem acj {I:Nat} {gs:List Gate} (G:cv I gs) {S:List Int} {root x:Int} (hx:x∈S) (hn:¬gy I gs S root.toNat x.toNat):gV I gs root S=none:=by
 unfold gV
 split
 ·simp only
  rw [if_neg]
  simp only [cf,not_and]
  intro _ h
  exact hn ((sW G).1 (gK.1 h x hx))
 ·rfl
theorem aaK {I:Nat} {gs:List Gate} {S:List Int} {root:Int} (h:nP (2+I+gs.length) root S=false):gV I gs root S=none:=by
 unfold gV;rw [h];rfl
theorem ack {I:Nat} {gs:List Gate} (G:cv I gs) {S:List Int} {root:Int} {st:l6} (hl:nP (2+I+gs.length) root S=true) (h:Iq I gs S root st) (ha:∀x∈S,gy I gs S root.toNat x.toNat):∃l,gV I gs root S=some l/\fY l/\∀u:Int,u∈l↔(st.ins u).isSome=true:=by
 have hs:∃l,gV I gs root S=some l:=by
  unfold gV
  rw [if_pos hl]
  simp only
  rw [if_pos]
  ·exact ⟨_,rfl⟩
  simp only [cf,gK]
  refine ⟨λw _=>?_,λx hx=>(sW G).2 (ha x hx)⟩
  cases hq:(rO I gs root.toNat S).getD w false with
  | false=>rfl
  | true=>rw [h.Xe w ((sW G).1 hq)];rfl
 obtain ⟨l,hl⟩:=hs
 have hm:=DG G hl
 exact ⟨l,hl,hm.1,λu=>(hm.2 u).trans (h.ins u).symm⟩
noncomputable def PP:Unit->Program:=λ_=>Try.prog
abbrev I0:Value:=.int .i64 0
abbrev U0:Value:=.int .u64 0
abbrev Y0:Value:=.int .u8 0
abbrev N0:Value:=.slice none 0 0
abbrev S0:Value:=.string ByteArray.empty
abbrev B0:Value:=.bool false
abbrev M0:Value:=.map none
@[reducible] def ti (d:TD) (s b:Nat) (z:Value):TI:={ d:=d,size:=s,bytes:=b,zero:=z }
@[reducible] def tF (d:TD) (s b:Nat) (z:Value) (k:Option (List IntKind)):TI:={ d:=d,size:=s,bytes:=b,zero:=z,flat:=true,kd:=k }
@[reducible] def tS (e:TypeId):TI:={ d:=.sl e,size:=1,bytes:=24,zero:=.slice none 0 0 }
def tt:TypeId->Option TI
 | 3=>some (ti (.int .i64) 1 8 I0)
 | 4=>some (ti (.bool) 1 1 B0)
 | 5=>some (ti (.int .u8) 1 1 Y0)
 | 9=>some (ti (.str) 1 16 S0)
 | 22=>some (tS 5)
 | 32=>some (tS 3)
 | 39=>some (tS 32)
 | 60=>some (tS 4)
 | 30=>some (tS 67)
 | 31=>some (tS 53)
 | 33=>some (ti (.st [(30,0,1),(31,1,1),(30,2,1),(32,3,1)]) 4 96 (.agg #[N0,N0,N0,N0]))
 | 34=>some (ti (.st [(30,0,1),(31,1,1),(30,2,1),(32,3,1)]) 4 96 (.agg #[N0,N0,N0,N0]))
 | 36=>some (tS 57)
 | 37=>some (ti (.st [(3,0,1),(36,1,1),(32,2,1)]) 3 56 (.agg #[I0,N0,N0]))
 | 38=>some (ti (.st [(3,0,1),(36,1,1),(32,2,1)]) 3 56 (.agg #[I0,N0,N0]))
 | 42=>some (ti (.int .i64) 1 8 I0)
 | 134=>some (ti (.int .u64) 1 8 U0)
 | 27=>some (ti (.arr 3 5) 3 3 (.agg #[Y0,Y0,Y0]))
 | 40=>some (ti (.st [(32,0,1),(39,1,1)]) 2 48 (.agg #[N0,N0]))
 | 41=>some (ti (.st [(32,0,1),(39,1,1)]) 2 48 (.agg #[N0,N0]))
 | 43=>some (ti (.st [(38,0,3),(41,3,2),(42,5,1)]) 6 112 (.agg #[I0,N0,N0,N0,N0,I0]))
 | 44=>some (ti (.st [(38,0,3),(41,3,2),(42,5,1)]) 6 112 (.agg #[I0,N0,N0,N0,N0,I0]))
 | 62=>some (ti (.st [(32,0,1),(39,1,1),(42,2,1)]) 3 56 (.agg #[N0,N0,I0]))
 | 63=>some (ti (.st [(32,0,1),(39,1,1),(42,2,1)]) 3 56 (.agg #[N0,N0,I0]))
 | 89=>some (tS 39)
 | 52=>some (tF (.st [(3,0,1),(3,1,1),(3,2,1),(3,3,1),(3,4,1)]) 5 40 (.agg #[I0,I0,I0,I0,I0]) none)
 | 53=>some (tF (.st [(3,0,1),(3,1,1),(3,2,1),(3,3,1),(3,4,1)]) 5 40 (.agg #[I0,I0,I0,I0,I0]) none)
 | 66=>some (tF (.st [(3,0,1),(3,1,1),(3,2,1)]) 3 24 (.agg #[I0,I0,I0]) (some [.i64,.i64,.i64]))
 | 67=>some (tF (.st [(3,0,1),(3,1,1),(3,2,1)]) 3 24 (.agg #[I0,I0,I0]) (some [.i64,.i64,.i64]))
 | 56=>some (ti (.st [(32,0,1),(3,1,1),(3,2,1)]) 3 40 (.agg #[N0,I0,I0]))
 | 57=>some (ti (.st [(32,0,1),(3,1,1),(3,2,1)]) 3 40 (.agg #[N0,I0,I0]))
 | 82=>some (ti (.int .u64) 1 8 U0)
 | 107=>some (ti (.map 3 4) 1 8 M0)
 | 71=>some (ti (.map 3 3) 1 8 M0)
 | _=>none
theorem Pt {t:TypeId} {i:TI} (h1:i.flat=false) (h2:i.kd=none) (hz:(Try.prog.info? t).map (·.zero)=some (some i.zero)) (hb:Pl Try.prog t i=true):kR Try.prog t i :=
 Ut hz hb (λh=>by rw [h1] at h;cases h) (λ_ h=>by rw [h2] at h;cases h)
theorem Wk:∀t i,tt t=some i->kR Try.prog t i:=by
 intro t i h
 unfold tt at h
 split at h
 all_goals cases h
 all_goals first|exact Pt rfl rfl (by kernel_rfl) (by kernel_rfl)|skip
 all_goals refine Ut (by kernel_rfl) (by kernel_rfl) (λ_=>⟨rfl,λvs us w _ _ h1 h2 op x y e8=>abf (by kernel_rfl) (by kernel_rfl) (by kernel_rfl) (by kernel_rfl) vs us w h1 h2 op x y e8⟩) (λks h=>?_)
 all_goals cases h
 all_goals exact abF (by kernel_rfl) (by kernel_rfl) (by kernel_rfl)
def bH (x:Int):List SV:=[.i .i64 λ_=>x]
theorem dq (x:Int):bZ (bH x)/\(bH x).all SV.one=true:=⟨⟨trivial,trivial⟩,rfl⟩
def zo:gD:=⟨Int,bH,0⟩
def sF (x:Int):List SV:=[.i .u8 λ_=>x]
theorem HW (x:Int):bZ (sF x)/\(sF x).all SV.one=true:=⟨⟨trivial,trivial⟩,rfl⟩
def Wl:gD:=⟨Int,sF,0⟩
def o8 (x:Bool):List SV:=[.b λ_=>x]
theorem Hw (x:Bool):bZ (o8 x)/\(o8 x).all SV.one=true:=⟨⟨trivial,trivial⟩,rfl⟩
def Uz:gD:=⟨Bool,o8,false⟩
def IZ (x:Int):List SV:=[.i .u64 λ_=>x]
theorem aeu (x:Int):bZ (IZ x)/\(IZ x).all SV.one=true:=⟨⟨trivial,trivial⟩,rfl⟩
def Ve:gD:=⟨Int,IZ,0⟩
def fR (x:List Int):List SV:=[.sl 1 bH (λ_=>x)]
theorem qF (x:List Int):bZ (fR x)/\(fR x).all SV.one=true:=⟨⟨λy=>(dq y).1,trivial⟩,rfl⟩
def MB:gD:=⟨List Int,fR,[]⟩
def zp (x:List (List Int)):List SV:=[.sl 1 fR (λ_=>x)]
theorem SL (x:List (List Int)):bZ (zp x)/\(zp x).all SV.one=true:=⟨⟨λy=>(qF y).1,trivial⟩,rfl⟩
def adq:gD:=⟨List (List Int),zp,[]⟩
def jR (x:dV):List SV:=[.i .i64 (λ_=>x.kind),.i .i64 (λ_=>x.i),.i .i64 (λ_=>x.bit)]
theorem rI (x:dV):bZ (jR x)/\(jR x).all SV.one=true:=⟨⟨trivial,trivial,trivial,trivial⟩,rfl⟩
def MC:gD:=⟨dV,jR,⟨0,0,0⟩⟩
def lT (x:Gate):List SV:=[.i .i64 (λ_=>x.op),.i .i64 (λ_=>x.a),.i .i64 (λ_=>x.b),.i .i64 (λ_=>x.c),.i .i64 (λ_=>x.n)]
theorem um (x:Gate):bZ (lT x)/\(lT x).all SV.one=true:=⟨⟨trivial,trivial,trivial,trivial,trivial,trivial⟩,rfl⟩
def MD:gD:=⟨Gate,lT,⟨0,0,0,0,0⟩⟩
def mC (x:Cell):List SV:=[.sl 1 bH (λ_=>x.ins),.i .i64 (λ_=>x.table),.i .i64 (λ_=>x.ej)]
theorem Bp (x:Cell):bZ (mC x)/\(mC x).all SV.one=true:=⟨⟨λy=>(dq y).1,trivial,trivial,trivial⟩,rfl⟩
def UA:gD:=⟨Cell,mC,⟨[],0,0⟩⟩
def MS (x:Block):List SV:=[.sl 1 bH (λ_=>x.ins),.i .i64 (λ_=>x.table),.i .i64 (λ_=>x.ej),.i .i64 (λ_=>x.cF),.i .u64 (λ_=>x.key)]
theorem acm (x:Block):bZ (MS x)/\(MS x).all SV.one=true:=⟨⟨λy=>(dq y).1,trivial,trivial,trivial,trivial,trivial⟩,rfl⟩
def Ir (x:Head):List SV:=[.b (λ_=>x.has),.i .i64 (λ_=>x.v)]
theorem adr (x:Head):bZ (Ir x)/\(Ir x).all SV.one=true:=⟨⟨trivial,trivial,trivial⟩,rfl⟩
def aev:gD:=⟨Head,Ir,⟨false,0⟩⟩
def I1 (x:ByteArray):List SV:=[.str (λ_=>x)]
theorem aew (x:ByteArray):bZ (I1 x)/\(I1 x).all SV.one=true:=⟨⟨trivial,trivial⟩,rfl⟩
def Vg:gD:=⟨ByteArray,I1,ByteArray.empty⟩
def Eb (x:Source):List SV:=[.i .i64 (λ_=>x.kind),.i .i64 (λ_=>x.n)]
theorem K0 (x:Source):bZ (Eb x)/\(Eb x).all SV.one=true:=⟨⟨trivial,trivial,trivial⟩,rfl⟩
def acn:gD:=⟨Source,Eb,⟨0,0⟩⟩
def Nr (x:Part):List SV:=[.sl 2 Eb (λ_=>x.ins),.i .i64 (λ_=>x.table),.i .i64 (λ_=>x.ej),.i .i64 (λ_=>x.cF)]
theorem ads (x:Part):bZ (Nr x)/\(Nr x).all SV.one=true:=⟨⟨λy=>(K0 y).1,trivial,trivial,trivial,trivial⟩,rfl⟩
def es:ByteArray:=ByteArray.empty
def cA:Nat->Expr->SV
 | 0,_=>.cD
 | n+1,x=>.sl 7 (λy=>[.i .i64 (λ_=>y.op),.str (λ_=>es),.i .i64 (λ_=>y.k),.str (λ_=>es),.i .i64 (λ_=>y.w),.str (λ_=>es),cA n y]) (λ_=>x.args)
def cE (n:Nat) (x:Expr):List SV:=[.i .i64 (λ_=>x.op),.str (λ_=>es),.i .i64 (λ_=>x.k),.str (λ_=>es),.i .i64 (λ_=>x.w),.str (λ_=>es),cA n x]
theorem BN:∀(n:Nat) (x:Expr),LF (cA n x)
 | 0,x=>trivial
 | n+1,x=>λy=>⟨trivial,trivial,trivial,trivial,trivial,trivial,BN n y,trivial⟩
theorem Ek (n:Nat) (x:Expr):(cA n x).one=true:=by cases n<;>rfl
theorem Wm (n:Nat) (x:Expr):bZ (cE n x)/\(cE n x).all SV.one=true :=
 ⟨⟨trivial,trivial,trivial,trivial,trivial,trivial,BN n x,trivial⟩,by simp only [cE,yS,DA,Ek];rfl⟩
def Xf (n:Nat):gD:=⟨Expr,cE n,.mk 0 0 0 []⟩
def rW (x:N4):List SV:=[.i .i64 (λ_=>x.kind),.str (λ_=>x.src),.i .i64 (λ_=>x.n)]
def ET (n:Nat) (x:Pq):List SV:=[.str (λ_=>x.name),.i .i64 (λ_=>x.w),.i .i64 (λ_=>x.init)]++cE n x.next++rW x.N5
def EU (n:Nat) (x:Mem):List SV:=[.str (λ_=>x.name),.i .i64 (λ_=>x.w),.i .i64 (λ_=>x.words)]++cE n x.en++cE n x.ad++cE n x.da++rW x.N5
def Es (n:Nat) (x:Take):List SV:=[.i .i64 (λ_=>x.chan),.i .i64 (λ_=>x.w)]++cE n x.cond
def EV (n:Nat) (x:Pr):List SV:=[.i .i64 (λ_=>x.chan),.i .i64 (λ_=>x.w)]++cE n x.cond++cE n x.data
theorem aex (n:Nat) (x:Pq):bZ (ET n x)/\(ET n x).all SV.one=true:=by
 refine ⟨by simp [ET,rW,cE,bZ,LF,BN],?_⟩
 simp only [ET,rW,cE,y3,ui,yS,DA,Ek];rfl
theorem aey (n:Nat) (x:Mem):bZ (EU n x)/\(EU n x).all SV.one=true:=by
 refine ⟨by simp [EU,rW,cE,bZ,LF,BN],?_⟩
 simp only [EU,rW,cE,y3,ui,yS,DA,Ek];rfl
theorem adt (n:Nat) (x:Take):bZ (Es n x)/\(Es n x).all SV.one=true:=by
 refine ⟨by simp [Es,rW,cE,bZ,LF,BN],?_⟩
 simp only [Es,rW,cE,y3,ui,yS,DA,Ek];rfl
theorem aez (n:Nat) (x:Pr):bZ (EV n x)/\(EV n x).all SV.one=true:=by
 refine ⟨by simp [EV,rW,cE,bZ,LF,BN],?_⟩
 simp only [EV,rW,cE,y3,ui,yS,DA,Ek];rfl
def MT (n:Nat):gD:=⟨Pq,ET n,⟨es,0,0,.mk 0 0 0 [],⟨0,es,0⟩⟩⟩
def MU (n:Nat):gD:=⟨Mem,EU n,⟨es,0,0,.mk 0 0 0 [],.mk 0 0 0 [],.mk 0 0 0 [],⟨0,es,0⟩⟩⟩
def ME (n:Nat):gD:=⟨Take,Es n,⟨0,0,.mk 0 0 0 []⟩⟩
def MV (n:Nat):gD:=⟨Pr,EV n,⟨0,0,.mk 0 0 0 [],.mk 0 0 0 []⟩⟩
def el (n m:Nat):TypeId->Option gD
 | 3=>some zo
 | 5=>some Wl
 | 4=>some Uz
 | 134=>some Ve
 | 32=>some MB
 | 39=>some adq
 | 67=>some MC
 | 53=>some MD
 | 57=>some UA
 | 9=>some Vg
 | _=>none
theorem rJ {η:Nat->Value} {q:Nat->Live} {H:aV} {x:SV} {r:List SV} {v:Value} {vs:List Value} (h:rel η q H x v) (h':aK η q H r vs):aK η q H (x :: r) (v :: vs):=by
 simp only [aK];exact ⟨_,_,rfl,h,h'⟩
theorem Ml {η:Nat->Value} {q:Nat->Live} {H:aV}:aK η q H [] []:=by simp [aK]
theorem Bb {η:Nat->Value} {q:Nat->Live} {H:aV} {T:Type} {sz:Nat} {c:T->List SV} (h:∀x,bZ (c x)):rel η q H (.sl sz c (λ_=>[])) (N0):=by
 simp only [rel];exact ⟨⟨none,0,rfl,fP _,.inl (by simp)⟩,h⟩
theorem aco {H:aV} (n:Nat):rel (λ_=>.nilIface) (λ_=>.un) H (cA n (.mk 0 0 0 [])) (N0):=by
 cases n with
 | zero=>simp [cA,rel]
 | succ n=>exact Bb λy=>(Wm n y).1
theorem xb (H:aV) (n:Nat):cW H (cE n (.mk 0 0 0 [])) [I0,S0,I0,S0,I0,S0,N0]:=by
 refine rJ (by simp [rel,Expr.op]) (rJ (by simp [rel,es]) (rJ (by simp [rel,Expr.k]) (rJ (by simp [rel,es]) (rJ (by simp [rel,Expr.w]) (rJ (by simp [rel,es]) (rJ ?_ Ml))))))
 exact aco n
theorem agX (H:aV):cW H (fR []) [N0]:=rJ (Bb λy=>(dq y).1) Ml
theorem afq (H:aV):cW H (zp []) [N0]:=rJ (Bb λy=>(qF y).1) Ml
theorem agY (H:aV):cW H (mC ⟨[],0,0⟩) [N0,I0,I0]:=rJ (Bb λy=>(dq y).1) (by simp [aK,rel])
theorem afr (H:aV):cW H (MS ⟨[],0,0,0,0⟩) [N0,I0,I0,I0,U0]:=rJ (Bb λy=>(dq y).1) (by simp [aK,rel])
theorem agZ (H:aV):cW H (Nr ⟨[],0,0,0⟩) [N0,I0,I0,I0]:=rJ (Bb λy=>(K0 y).1) (by simp [aK,rel])
theorem Q6 (H:aV):cW H (rW ⟨0,es,0⟩) [I0,S0,I0]:=by simp [rW,aK,rel,es]
theorem zE (H:aV) (n:Nat):cW H ((Xf n).c (Xf n).z) [I0,S0,I0,S0,I0,S0,N0]:=xb H n
theorem ail (H:aV) (n:Nat):cW H ((MT n).c (MT n).z) [S0,I0,I0,I0,S0,I0,S0,I0,S0,N0,I0,S0,I0] :=
 gI (gI (s:=[_,_,_]) (v:=[_,_,_]) (by simp [aK,rel,MT,es]) (xb H n)) (Q6 H)
theorem aim (H:aV) (n:Nat):cW H ((MU n).c (MU n).z) [S0,I0,I0,I0,S0,I0,S0,I0,S0,N0,
  I0,S0,I0,S0,I0,S0,N0,I0,S0,I0,S0,I0,S0,N0,I0,S0,I0] :=
 gI (gI (gI (gI (s:=[_,_,_]) (v:=[_,_,_]) (by simp [aK,rel,MU,es]) (xb H n)) (xb H n)) (xb H n)) (Q6 H)
theorem ag0 (H:aV) (n:Nat):cW H ((ME n).c (ME n).z) [I0,I0,I0,S0,I0,S0,I0,S0,N0] :=
 gI (s:=[_,_]) (v:=[_,_]) (by simp [aK,rel,ME]) (xb H n)
theorem ain (H:aV) (n:Nat):cW H ((MV n).c (MV n).z) [I0,I0,I0,S0,I0,S0,I0,S0,N0,I0,S0,I0,S0,I0,S0,N0] :=
 gI (gI (s:=[_,_]) (v:=[_,_]) (by simp [aK,rel,MV]) (xb H n)) (xb H n)
theorem MW {T:TypeId->Option TI} (hT:∀t i,tt t=some i->T t=some i) (n m:Nat) (X:Ctx) (h:X.tt=T) (t:TypeId) (E:gD) (he:el n m t=some E):BI Try.prog X t E:=by
 have h1:∀{t i j},tt t=some j->X.tt t=some i->i=j:=λh2 h3=>by rw [h,hT _ _ h2] at h3;cases h3;rfl
 unfold el at he
 split at he
 all_goals cases he
 all_goals
  refine ⟨⟨_,by rw [h];exact hT _ _ rfl⟩,λi hi x=>?_,?_,λi hi H=>?_⟩
  ·cases h1 rfl hi;first|rfl|(cases n<;>rfl)|(cases m<;>rfl)
  ·first|exact dq|exact HW|exact Hw|exact aeu|exact qF|exact SL|exact rI|exact um|exact Bp|exact acm|exact adr|exact aew|exact K0|exact ads|exact Wm n|exact aex m|exact aey m|exact adt m|exact aez m
  ·cases h1 rfl hi;first|exact agX H|exact afq H|exact agY H|exact afr H|exact agZ H|exact zE H n|exact ail H m|exact aim H m|exact ag0 H m|exact ain H m|(simp [zo,bH,Wl,sF,Uz,o8,Ve,IZ,MC,jR,MD,lT,aev,Ir,Vg,I1,acn,Eb,aK,rel,Value.cells])
theorem ag1 (n m:Nat) (X:Ctx) (h:X.tt=tt) (t:TypeId) (E:gD) (he:el n m t=some E):BI Try.prog X t E:=MW (λ_ _ h=>h) n m X h t E he
theorem mixed:Try.prog.follows .mixedOrders=true:=by kernel_rfl
@[reducible] def nv (n m:Nat) (fs:List (Nat × Func)) (sp:List (Nat × Vc.Spec)) (io lp cut row emp:List Nat:=[]):Ctx:=JG tt (el n m) fs sp io lp cut row emp
theorem n8 (n m:Nat) {fs:List (Nat × Func)} {sp:List (Nat × Vc.Spec)} {io lp cut row emp:List Nat} (hf:uV (λf fn=>kA (PP ()) f fn/\lS fn=true) fs) (hs:uV (λf S=>dm (PP ()) f S) sp):CB PP (nv n m fs sp io lp cut row emp):=Np Wk (ag1 n m) mixed hf hs
def tf:TypeId->Option TI
 | 80=>some (ti .other 1 8 .nilFunc)
 | 92=>some (ti .other 1 8 .nilFunc)
 | 98=>some (ti .other 1 8 .nilFunc)
 | 133=>some (ti .other 1 8 .nilFunc)
 | 143=>some (ti .other 1 8 .nilFunc)
 | _=>none
theorem ag2:∀t i,tf t=some i->kR Try.prog t i:=by
 intro t i h
 unfold tf at h
 split at h
 all_goals cases h
 all_goals exact Pt rfl rfl (by kernel_rfl) (by kernel_rfl)
def t2 (t:TypeId):Option TI:=match tt t with
 | some i=>some i
 | none=>tf t
theorem Wn:∀t i,t2 t=some i->kR Try.prog t i:=by
 intro t i h
 unfold t2 at h
 split at h
 ·rename_i j hj
  cases h
  exact Wk t _ hj
 ·exact ag2 t i h
theorem afs (n m:Nat) (X:Ctx) (h:X.tt=t2) (t:TypeId) (E:gD) (he:el n m t=some E):BI Try.prog X t E:=MW (λt i h=>by unfold t2;rw [h]) n m X h t E he
@[reducible] def ff (n m:Nat) (fs:List (Nat × Func)) (sp:List (Nat × Vc.Spec)) (io lp cut row emp:List Nat:=[]):Ctx:=JG t2 (el n m) fs sp io lp cut row emp
theorem fi (n m:Nat) {fs:List (Nat × Func)} {sp:List (Nat × Vc.Spec)} {io lp cut row emp:List Nat} (hf:uV (λf fn=>kA (PP ()) f fn/\lS fn=true) fs) (hs:uV (λf S=>dm (PP ()) f S) sp):CB PP (ff n m fs sp io lp cut row emp):=Np Wn (afs n m) mixed hf hs
def tm:TypeId->Option TI
 | 86=>some (ti (.ptr 91) 1 8 (.pointer none))
 | 91=>some (ti (.st [(34,0,4),(32,4,1),(89,5,1),(39,6,1)]) 7 168 (.agg #[N0,N0,N0,N0,N0,N0,N0]))
 | 109=>some (ti (.arr 4 3) 4 32 (.agg #[I0,I0,I0,I0]))
 | 50=>some (ti (.arr 5 5) 5 5 (.agg #[Y0,Y0,Y0,Y0,Y0]))
 | 68=>some (ti (.arr 4 5) 4 4 (.agg #[Y0,Y0,Y0,Y0]))
 | 23=>some (tS 50)
 | 24=>some (tS 68)
 | 26=>some (ti (.st [(22,0,1),(23,1,1),(24,2,1)]) 3 72 (.agg #[N0,N0,N0]))
 | _=>none
theorem ag3:∀t i,tm t=some i->kR Try.prog t i:=by
 intro t i h
 unfold tm at h
 split at h
 all_goals cases h
 all_goals exact Pt rfl rfl (by kernel_rfl) (by kernel_rfl)
def t3 (t:TypeId):Option TI:=match t2 t with
 | some i=>some i
 | none=>tm t
theorem ag4:∀t i,t3 t=some i->kR Try.prog t i:=by
 intro t i h
 unfold t3 at h
 split at h
 ·rename_i j hj
  cases h
  exact Wn t _ hj
 ·exact ag3 t i h
structure B5 where
 a:Int
 b:Int
 c:Int
 d:Int
 e:Int
structure B4 where
 a:Int
 b:Int
 c:Int
 d:Int
def tP (x:B5):List SV:=[.i .u8 λ_=>x.a,.i .u8 λ_=>x.b,.i .u8 λ_=>x.c,.i .u8 λ_=>x.d,.i .u8 λ_=>x.e]
def uY (x:B4):List SV:=[.i .u8 λ_=>x.a,.i .u8 λ_=>x.b,.i .u8 λ_=>x.c,.i .u8 λ_=>x.d]
theorem El (x:B5):bZ (tP x)/\(tP x).all SV.one=true:=⟨⟨trivial,trivial,trivial,trivial,trivial,trivial⟩,rfl⟩
theorem HX (x:B4):bZ (uY x)/\(uY x).all SV.one=true:=⟨⟨trivial,trivial,trivial,trivial,trivial⟩,rfl⟩
def Wo:gD:=⟨B5,tP,⟨0,0,0,0,0⟩⟩
def Wp:gD:=⟨B4,uY,⟨0,0,0,0⟩⟩
def Pu (n m:Nat):TypeId->Option gD
 | 50=>some Wo
 | 68=>some Wp
 | t=>el n m t
theorem aft (n m:Nat) (X:Ctx) (h:X.tt=t3) (t:TypeId) (E:gD) (he:Pu n m t=some E):BI Try.prog X t E:=by
 unfold Pu at he
 split at he
 ·cases he
  exact ⟨⟨_,by rw [h];rfl⟩,λi hi x=>by rw [h] at hi;cases hi;rfl,El,λi hi H=>by rw [h] at hi;cases hi;simp [Wo,tP,aK,rel,Value.cells]⟩
 ·cases he
  exact ⟨⟨_,by rw [h];rfl⟩,λi hi x=>by rw [h] at hi;cases hi;rfl,HX,λi hi H=>by rw [h] at hi;cases hi;simp [Wp,uY,aK,rel,Value.cells]⟩
 ·exact MW (λt i h=>by unfold t3 t2;rw [h]) n m X h t E he
@[reducible] def cP (n m:Nat) (fs:List (Nat × Func)) (sp:List (Nat × Vc.Spec)) (io lp cut row emp:List Nat:=[]):Ctx:=JG t3 (Pu n m) fs sp io lp cut row emp
theorem cR (n m:Nat) {fs:List (Nat × Func)} {sp:List (Nat × Vc.Spec)} {io lp cut row emp:List Nat} (hf:uV (λf fn=>kA (PP ()) f fn/\lS fn=true) fs) (hs:uV (λf S=>dm (PP ()) f S) sp):CB PP (cP n m fs sp io lp cut row emp):=Np ag4 (aft n m) mixed hf hs
theorem eO {i:Nat} (h:i < 4611686018427387904):IntKind.i64.wrap ((i:Int)+1)=((i+1:Nat):Int):=by rw [ei (by omega) (by omega)];rfl
theorem n0 (i:Nat):(0:Int)<=(i:Int):=Ll _
theorem cC {α:Type} {l:List α} {i:Nat} (h:i < l.length):∃x,l[i]?=some x:=⟨_,eB h⟩
def oj (n:Net):List SV:=[.sl 3 jR (λ_=>n.ins),.sl 5 lT (λ_=>n.bU),.sl 3 jR (λ_=>n.outs),.sl 1 bH (λ_=>n.bf)]
theorem td (n:Net):bZ (oj n):=⟨λx=>(rI x).1,λx=>(um x).1,λx=>(rI x).1,λx=>(dq x).1,trivial⟩
def vI (n:Net):Int:=2+n.ins.length+n.bU.length
@[reducible] noncomputable def Xg:Vc.Spec where
 α:=Net
 args n:=[.agg (oj n)]
 pre n:=n.ins.length<=1000/\n.bU.length<=1000
 res n:=.i .i64 (λ_=>vI n)
noncomputable def cM0 (n m:Nat):Ctx:=cP n m [] []
theorem o9 (n m:Nat):CB PP (cM0 n m):=cR n m trivial trivial
theorem afu:dm (PP ()) 49 Xg:=by
 refine fl (o9 0 0) (fo Try.func49) (λn=>⟨td n,trivial⟩) (λn=>trivial) ?_
 rintro ⟨ins,gs,outs,dr⟩ ⟨h1,h2⟩
 have h1:ins.length<=1000:=h1
 have h2:gs.length<=1000:=h2
 have hw:IntKind.i64.wrap (2+(ins.length:Int))=2+ins.length:=ei (by omega) (by omega)
 have hv:IntKind.i64.wrap (IntKind.i64.wrap (2+(ins.length:Int))+gs.length)=vI ⟨ins,gs,outs,dr⟩:=by rw [hw,ei (by omega) (by omega)];rfl
 refine ⟨?_⟩
 cbv
 exact ⟨by have bE:=hv;exact bJ⟩
def pS (n:Net) (v:Int):Gate × Bool:=match fV n.ins.length n.bU v.toNat with
 | some g=>if g.op=7 then (⟨0,0,0,0,0⟩,false) else (g,true)
 | none=>(⟨0,0,0,0,0⟩,false)
structure ag5 where
 n:Net
 v:Int
 g:Gate
 b:Bool
@[reducible] noncomputable def N7:Vc.Spec where
 α:=ag5
 args x:=[.agg (oj x.n),.i .i64 (λ_=>x.v)]
 pre x:=x.n.ins.length<=1000/\x.n.bU.length<=1000/\0<=x.v/\x.v < vI x.n/\pS x.n x.v=(x.g,x.b)
 res x:=.bX [.agg (lT x.g),.b (λ_=>x.b)]
theorem Vh:dm (PP ()) 43 N7:=by
 refine fl (o9 0 0) (fo Try.func43) (λx=>⟨td x.n,trivial,trivial⟩) (λx=>⟨(um _).1,trivial,trivial⟩) ?_
 rintro ⟨⟨ins,gs,outs,dr⟩,v,⟨o,a,b,c,d⟩,B⟩ ⟨h1,h2,h3,h4,h5⟩
 have h1:ins.length<=1000:=h1
 have h2:gs.length<=1000:=h2
 have h3:0<=v:=h3
 have h4:v < 2+(ins.length:Int)+gs.length:=h4
 have hw:IntKind.i64.wrap (IntKind.i64.wrap (v - 2) - ins.length)=v - 2 - ins.length:=by rw [ei (n:=v - 2) (by omega) (by omega),ei (by omega) (by omega)]
 have du:v < 2+(ins.length:Int)->(⟨o,a,b,c,d⟩:Gate)=⟨0,0,0,0,0⟩/\B=false:=λh=>by
  have h5:pS ⟨ins,gs,outs,dr⟩ v=(⟨o,a,b,c,d⟩,B):=h5
  unfold pS fV at h5;rw [if_pos (by show v.toNat < 2+ins.length;omega)] at h5;cases h5;exact ⟨rfl,rfl⟩
 have b9:∀g,2+(ins.length:Int)<=v->gs[(IntKind.i64.wrap (IntKind.i64.wrap (v - 2) - ins.length)).toNat]?=some g->(if g.op=7 then ((⟨0,0,0,0,0⟩,false):Gate × Bool) else (g,true))=(⟨o,a,b,c,d⟩,B):=λg h hg=>by
  have h5:pS ⟨ins,gs,outs,dr⟩ v=(⟨o,a,b,c,d⟩,B):=h5
  unfold pS fV at h5
  rw [if_neg (by show ¬v.toNat < 2+ins.length;omega)] at h5
  rw [hw,show (v - 2 - (ins.length:Int)).toNat=v.toNat - 2 - ins.length by omega] at hg
  simp only [hg] at h5
  exact h5
 clear h5
 have x5:0<=IntKind.i64.wrap (IntKind.i64.wrap (v - 2) - ins.length)->2+(ins.length:Int)<=v/\(IntKind.i64.wrap (IntKind.i64.wrap (v - 2) - ins.length)).toNat < gs.length:=λh=>by rw [hw] at h ⊢;omega
 refine ⟨?_⟩
 cbv
 refine ⟨λh=>?_,λh=>?_⟩
 ·have aQ:IntKind.i64.wrap (IntKind.i64.wrap (v - 2) - ins.length) < 0:=aL
  rw [hw] at aQ
  obtain ⟨e,rfl⟩:=du (by omega)
  cases e
  cbv
  exact ⟨by exact a7⟩
 ·have aQ:0<=IntKind.i64.wrap (IntKind.i64.wrap (v - 2) - ins.length):=aL
  refine (cC (x5 aQ).2).elim λg hg=>?_
  have kF:=b9 g (x5 aQ).1 hg
  cbv
  refine ⟨g,⟨aQ,hg⟩,?_⟩
  cbv
  refine ⟨λh=>?_,λh=>?_⟩
  ·have h7:g.op=7:=aL
   rw [if_pos h7] at kF
   cases kF
   cbv
   exact ⟨by exact a7⟩
  ·have h7:¬g.op=7:=aL
   rw [if_neg h7] at kF
   cases kF
   cbv
   refine ⟨_,⟨aQ,hg⟩,?_⟩
   cbv
   exact ⟨by exact a7⟩
structure aio where
 g:Gate
 l:List Int
@[reducible] noncomputable def Xh:Vc.Spec where
 α:=aio
 args x:=[.agg (lT x.g)]
 pre x:=cI x.g=x.l
 res x:=.sl 1 bH (λ_=>x.l)
theorem aeA {o a b c d:Int}:(o=1->cI ⟨o,a,b,c,d⟩=[a])/\(¬o=1->o=2\/o=3\/o=4->cI ⟨o,a,b,c,d⟩=[a,b])/\(¬o=1->¬o=2->¬o=3->¬o=4->cI ⟨o,a,b,c,d⟩=[a,b,c]):=by
 refine ⟨λh=>?_,λh k=>?_,λh k1 k2 k3=>?_⟩<;>simp [cI,kb, *]
theorem afv:dm (PP ()) 52 Xh:=by
 refine fl (o9 0 0) (fo Try.func52) (λx=>⟨(um _).1,trivial⟩) (λx=>(λy=>(dq y).1)) ?_
 rintro ⟨⟨o,a,b,c,d⟩,l⟩ hx
 have hx:cI ⟨o,a,b,c,d⟩=l:=hx
 obtain ⟨q1,q2,q3⟩:=aeA (o:=o) (a:=a) (b:=b) (c:=c) (d:=d)
 rw [hx] at q1 q2 q3
 clear hx
 refine ⟨?_⟩
 cbv
 refine ⟨λh=>?_,λh=>?_⟩
 ·have h1:o=1:=aL
  have e:=q1 h1
  subst e
  cbv
  exact ⟨by exact a7⟩
 have h1:¬o=1:=aL
 clear h q1
 cbv
 refine ⟨λh=>?_,λh=>?_⟩
 ·have h2:o=2:=aL
  have e:=q2 h1 (.inl h2)
  subst e
  cbv
  exact ⟨by exact a7⟩
 have h2:¬o=2:=aL
 clear h
 cbv
 refine ⟨λh=>?_,λh=>?_⟩
 ·have h2:o=3:=aL
  have e:=q2 h1 (.inr (.inl h2))
  subst e
  cbv
  exact ⟨by exact a7⟩
 have h3:¬o=3:=aL
 clear h
 cbv
 refine ⟨λh=>?_,λh=>?_⟩
 ·have h2:o=4:=aL
  have e:=q2 h1 (.inr (.inr h2))
  subst e
  cbv
  exact ⟨by exact a7⟩
 have h4:¬o=4:=aL
 have e:=q3 h1 h2 h3 h4
 subst e
 cbv
 exact ⟨by exact a7⟩
@[reducible] noncomputable def Xi:Vc.Spec where
 α:=Int
 args x:=[.i .i64 (λ_=>x)]
 pre x:=True
 res x:=.i .i64 (λ_=>((kb x:Nat):Int))
theorem afw:dm (PP ()) 40 Xi:=by
 refine fl (o9 0 0) (fo Try.func40) (λx=>⟨trivial,trivial⟩) (λx=>trivial) ?_
 intro o _
 have q1:o=1->(1:Int)=((kb o:Nat):Int):=λh=>by simp [kb,h]
 have q2:¬o=1->o=2\/o=3\/o=4->(2:Int)=((kb o:Nat):Int):=λh k=>by simp [kb,h,k]
 have q3:¬o=1->¬o=2->¬o=3->¬o=4->(3:Int)=((kb o:Nat):Int):=λh k1 k2 k3=>by simp [kb, *]
 refine ⟨?_⟩
 cbv
 refine ⟨λh=>?_,λh=>?_⟩
 ·have h1:o=1:=aL
  have e:=q1 h1
  exact ⟨by exact a7⟩
 have h1:¬o=1:=aL
 clear h q1
 cbv
 refine ⟨λh=>?_,λh=>?_⟩
 ·have h2:o=2:=aL
  have e:=q2 h1 (.inl h2)
  cbv
  exact ⟨by exact a7⟩
 have h2:¬o=2:=aL
 clear h
 cbv
 refine ⟨λh=>?_,λh=>?_⟩
 ·have h2:o=3:=aL
  have e:=q2 h1 (.inr (.inl h2))
  cbv
  exact ⟨by exact a7⟩
 have h3:¬o=3:=aL
 clear h
 cbv
 refine ⟨λh=>?_,λh=>?_⟩
 ·have h2:o=4:=aL
  have e:=q2 h1 (.inr (.inr h2))
  cbv
  exact ⟨by exact a7⟩
 have h4:¬o=4:=aL
 have e:=q3 h1 h2 h3 h4
 cbv
 exact ⟨by exact a7⟩
theorem acp (o:Int):kb o<=3:=by
 unfold kb
 split
 ·omega
 ·split<;>omega
@[reducible] noncomputable def I4:Vc.Spec where
 α:=Gate
 args g:=[.agg (lT g)]
 pre g:=True
 res g:=.sl 1 bH (λ_=>cI g)
noncomputable def cM1 (n m:Nat):Ctx:=cP n m [] [(40,Xi)]
theorem ag6 (n m:Nat):CB PP (cM1 n m):=cR n m trivial ⟨afw,trivial⟩
theorem MX:dm (PP ()) 35 I4:=by
 refine fl (ag6 0 0) (fo Try.func35) (λx=>⟨(um _).1,trivial⟩) (λx=>(λy=>(dq y).1)) ?_
 rintro ⟨o,a,b,c,d⟩ _
 have hk:=acp o
 have hn:(0:Int)<=0/\(0:Int)<=((kb o:Nat):Int)/\((kb o:Nat):Int)<=3:=by omega
 have hl:(([a,b,c]:List Int).take (((kb o:Nat):Int)).toNat).drop (0:Int).toNat=cI ⟨o,a,b,c,d⟩:=by rw [jw];rfl
 refine ⟨?_⟩
 cbv
 refine ⟨o,⟨by exact a7,trivial⟩,?_⟩
 cbv
 refine ⟨[a,b,c],⟨⟨rfl,by exact gw,hn⟩,?_⟩⟩
 cbv
 exact ⟨by have iz:=hl;exact bJ⟩
theorem lt4 {j:Nat} (h:j < 4):j=0\/j=1\/j=2\/j=3:=by omega
@[reducible] noncomputable def Xj:Vc.Spec where
 α:=Nat
 args j:=[.i .i64 (λ_=>(j:Int))]
 pre j:=j < 4
 res j:=.i .i64 (λ_=>uu j)
theorem afx:dm (PP ()) 42 Xj:=by
 refine fl (o9 0 0) (fo Try.func42) (λx=>⟨trivial,trivial⟩) (λx=>trivial) ?_
 intro j hj
 have hj:(j:Nat) < 4:=hj
 rcases lt4 hj with rfl|rfl|rfl|rfl
 ·have e:(43690:Int)=uu 0:=rfl
  refine ⟨?_⟩
  cbv
  refine ⟨0,⟨rfl,by decide,rfl⟩,?_⟩
  cbv
  exact ⟨by exact a7⟩
 ·have e:(52428:Int)=uu 1:=rfl
  refine ⟨?_⟩
  cbv
  refine ⟨1,⟨rfl,by decide,rfl⟩,?_⟩
  cbv
  exact ⟨by exact a7⟩
 ·have e:(61680:Int)=uu 2:=rfl
  refine ⟨?_⟩
  cbv
  refine ⟨2,⟨rfl,by decide,rfl⟩,?_⟩
  cbv
  exact ⟨by exact a7⟩
 ·have e:(65280:Int)=uu 3:=rfl
  refine ⟨?_⟩
  cbv
  refine ⟨3,⟨rfl,by decide,rfl⟩,?_⟩
  cbv
  exact ⟨by exact a7⟩
structure aip where
 op:Int
 a:Int
 b:Int
 c:Int
 r:Int
@[reducible] noncomputable def Xk:Vc.Spec where
 α:=aip
 args x:=[.i .i64 (λ_=>x.op),.i .i64 (λ_=>x.a),.i .i64 (λ_=>x.b),.i .i64 (λ_=>x.c)]
 pre x:=combineM x.op x.a x.b x.c=x.r
 res x:=.i .i64 (λ_=>x.r)
theorem afy:dm (PP ()) 44 Xk:=by
 refine fl (o9 0 0) (fo Try.func44) (λx=>⟨trivial,trivial,trivial,trivial,trivial⟩) (λx=>trivial) ?_
 rintro ⟨o,a,b,c,R⟩ hx
 have hx:combineM o a b c=R:=hx
 have q1:o=1->fC .xor .i64 (-1) a=R:=λh=>by rw [<-hx];simp [combineM,h,B8]
 have q2:o=2->fC .and .i64 a b=R:=λh=>by rw [<-hx];simp [combineM,h,tB]
 have q3:o=3->fC .or .i64 a b=R:=λh=>by rw [<-hx];simp [combineM,h,As]
 have q4:o=4->fC .xor .i64 a b=R:=λh=>by rw [<-hx];simp [combineM,h,B8]
 have q5:o=5->fC .or .i64 (fC .and .i64 a b) (fC .and .i64 (fC .xor .i64 (-1) a) c)=R:=λh=>by rw [<-hx];simp [combineM,h,As,tB,B8]
 have q6:¬o=1->¬o=2->¬o=3->¬o=4->¬o=5->fC .or .i64 (fC .or .i64 (fC .and .i64 a b) (fC .and .i64 a c)) (fC .and .i64 b c)=R:=λk1 k2 k3 k4 k5=>by rw [<-hx];simp [combineM, *,As,tB]
 clear hx
 refine ⟨?_⟩
 cbv
 refine ⟨λh=>?_,λh=>?_⟩
 ·have e:=q1 aL
  cbv
  exact ⟨by exact a7⟩
 have n1:¬o=1:=aL
 clear h q1
 cbv
 refine ⟨λh=>?_,λh=>?_⟩
 ·have e:=q2 aL
  cbv
  exact ⟨by exact a7⟩
 have n2:¬o=2:=aL
 clear h q2
 cbv
 refine ⟨λh=>?_,λh=>?_⟩
 ·have e:=q3 aL
  cbv
  exact ⟨by exact a7⟩
 have n3:¬o=3:=aL
 clear h q3
 cbv
 refine ⟨λh=>?_,λh=>?_⟩
 ·have e:=q4 aL
  cbv
  exact ⟨by exact a7⟩
 have n4:¬o=4:=aL
 clear h q4
 cbv
 refine ⟨λh=>?_,λh=>?_⟩
 ·have e:=q5 aL
  cbv
  exact ⟨by exact a7⟩
 have n5:¬o=5:=aL
 clear h q5
 have e:=q6 n1 n2 n3 n4 n5
 cbv
 exact ⟨by exact a7⟩
structure LV where
 l:List Int
 v:Int
def zZ (l:List Int) (v:Int):Int:=match l.findIdx? (λx=>decide (x=v)) with
 | some i=>i
 | none=>-1
theorem aeB {l:List Int} {v:Int} {i:Nat} (h:∀j,j < i->∀x,l[j]?=some x->¬v=x) (hi:l[i]?=some v):(i:Int)=zZ l v:=by
 unfold zZ
 obtain ⟨hl,e⟩:=bq.1 hi
 have:l.findIdx? (λx=>decide (x=v))=some i:=by
  rw [DH]
  refine ⟨hl,by simpa using e,λj hj=>?_⟩
  have:=h j hj _ (eB (by omega))
  simp;exact λe=>this e.symm
 rw [this]
theorem aeC {l:List Int} {v:Int} (h:∀j,j < l.length->∀x,l[j]?=some x->¬v=x):(-1:Int)=zZ l v:=by
 unfold zZ
 have:l.findIdx? (λx=>decide (x=v))=none:=by
  rw [Bg]
  intro x hx
  obtain ⟨j,hj⟩:=qC hx
  have:=h j (bq.1 hj).1 x hj
  simp;exact λe=>this e.symm
 rw [this]
theorem aaL (l:List Int) (v:Int):jB 0 (zZ l v)=l.contains v:=by
 unfold zZ jB
 cases h:l.findIdx? (λx=>decide (x=v)) with
 | none =>
  rw [Bg] at h
  have:v∉l:=λhm=>by have:=h v hm;simp at this
  simp [this]
 | some i =>
  rw [DH] at h
  obtain ⟨hl,hp,_⟩:=h
  simp at hp
  have:v∈l:=hp ▸ Lr hl
  simp [this]
@[reducible] noncomputable def Wq:Vc.Spec where
 α:=LV
 args x:=[.sl 1 bH (λ_=>x.l),.i .i64 (λ_=>x.v)]
 pre x:=x.l.length<=1000000000000
 res x:=.i .i64 (λ_=>zZ x.l x.v)
theorem aeD:dm (PP ()) 61 Wq:=by
 refine fl (o9 0 0) (fo Try.func61) (λa=>⟨λx=>(dq x).1,trivial,trivial⟩) (λa=>trivial) ?_
 rintro ⟨l,v⟩ hx
 have hl:l.length<=1000000000000:=hx
 refine ⟨?_⟩
 cbv
 refine Sat.eE (o9 0 0) 0 5 [] (λi:Nat=>[(6,.sl 1 bH (λ_=>l)),(7,.i .i64 (λ_=>(l.length:Int))),(8,.i .i64 λ_=>(i:Int))]) (λ_=>[]) (λi=>i<=l.length/\∀j,j < i->∀x,l[j]?=some x->¬v=x) (λi=>l.length - i) 0 (by exact aW) (by exact aW) ⟨cK _,λj h=>absurd h (sZ _)⟩ ?_
 rintro i ⟨hi,du⟩
 have hi:i<=l.length:=hi
 have h0:=n0 i
 have h1:=eO (i:=i) (by omega)
 cbv
 refine ⟨λh=>?_,λh=>?_⟩
 ·have bP:i < l.length:=aL
  have cy:l.length - (i+1) < l.length - i:=by omega
  refine (cC bP).elim λx hx=>?_
  cbv
  refine ⟨x,⟨h0,hx⟩,?_⟩
  cbv
  refine ⟨λh=>?_,λh=>?_⟩
  ·have e:v=x:=aL
   have hr:=aeB du (e ▸ hx)
   cbv
   exact ⟨by have bE:=hr;exact bJ⟩
  ·have bM:¬v=x:=aL
   have bW:i+1<=l.length/\∀j,j < i+1->∀x,l[j]?=some x->¬v=x:=⟨bP,λj hj y hy=>by
    by_cases qY:j=i
    ·subst qY;rw [hx] at hy;cases hy;exact bM
    ·exact du j (by omega) y hy⟩
   cbv
   exact ⟨i+1,by exact aW,by exact aW,⟨⟨bW,cy⟩⟩⟩
 ·have b9:¬i < l.length:=by have h:l.length<=i:=aL;omega
  have hr:=aeC (l:=l) (v:=v) λj hj=>du j (by omega)
  cbv
  exact ⟨by have gE:=hr;exact bJ⟩
@[reducible] noncomputable def Iu:Vc.Spec where
 α:=LV
 args x:=[.sl 1 bH (λ_=>x.l),.i .i64 (λ_=>x.v)]
 pre x:=x.l.length<=1000000000000
 res x:=.b (λ_=>x.l.contains x.v)
noncomputable def cMc (n m:Nat):Ctx:=cP n m [] [(61,Wq)]
theorem ag7 (n m:Nat):CB PP (cMc n m):=cR n m trivial ⟨aeD,trivial⟩
theorem MF:dm (PP ()) 51 Iu:=by
 refine fl (ag7 0 0) (fo Try.func51) (λa=>⟨λx=>(dq x).1,trivial,trivial⟩) (λa=>trivial) ?_
 rintro ⟨l,v⟩ hx
 have hl:l.length<=1000000000000:=hx
 have hr:=aaL l v
 refine ⟨?_⟩
 cbv
 refine ⟨⟨l,v⟩,⟨by exact a7,hl⟩,?_⟩
 cbv
 exact ⟨by have nq:=hr;exact bJ⟩
structure L2 where
 a:List Int
 b:List Int
@[reducible] noncomputable def N8:Vc.Spec where
 α:=L2
 args x:=[.sl 1 bH (λ_=>x.a),.sl 1 bH (λ_=>x.b)]
 pre x:=x.a.length<=1000000000000/\x.b.length<=1000000000000
 res x:=.b (λ_=>decide (x.a=x.b))
theorem Vi:dm (PP ()) 22 N8:=by
 refine fl (o9 0 0) (fo Try.func22) (λa=>⟨λx=>(dq x).1,λx=>(dq x).1,trivial⟩) (λa=>trivial) ?_
 rintro ⟨a,b⟩ hx
 obtain ⟨ha,hb⟩:a.length<=1000000000000/\b.length<=1000000000000:=hx
 refine ⟨?_⟩
 cbv
 refine ⟨λh=>?_,λh=>?_⟩
 ·have bM:¬(a.length:Int)=b.length:=aL
  have hr:false=decide (a=b):=by rw [eq_comm,decide_eq_false_iff_not];rintro rfl;exact bM rfl
  cbv
  exact ⟨by have eR:=hr;exact bJ⟩
 have gu:(a.length:Int)=b.length:=aL
 have gu:a.length=b.length:=by omega
 clear h
 cbv
 refine Sat.eE (o9 0 0) 0 5 [] (λi:Nat=>[(12,.i .i64 (λ_=>(a.length:Int))),(13,.i .i64 λ_=>(i:Int))]) (λ_=>[]) (λi=>i<=a.length/\a.take i=b.take i) (λi=>a.length - i) 0 (by exact aW) (by exact aW) ⟨cK _,by simp⟩ ?_
 rintro i ⟨hi,he⟩
 have hi:i<=a.length:=hi
 have he:a.take i=b.take i:=he
 have h0:=n0 i
 have h1:=eO (i:=i) (by omega)
 cbv
 refine ⟨λh=>?_,λh=>?_⟩
 ·have bP:i < a.length:=aL
  have cy:a.length - (i+1) < a.length - i:=by omega
  refine (cC bP).elim λx hx=>?_
  refine (cC (show i < b.length by omega)).elim λy hy=>?_
  cbv
  refine ⟨x,⟨h0,hx⟩,?_⟩
  cbv
  refine ⟨y,⟨h0,hy⟩,?_⟩
  cbv
  refine ⟨λh=>?_,λh=>?_⟩
  ·have bM:¬x=y:=aL
   have hr:false=decide (a=b):=by rw [eq_comm,decide_eq_false_iff_not];rintro rfl;rw [hx] at hy;cases hy;exact bM rfl
   cbv
   exact ⟨by have eR:=hr;exact bJ⟩
  ·have e:x=y:=aL
   have bW:i+1<=a.length/\a.take (i+1)=b.take (i+1):=⟨bP,by rw [jm,jm,hx,hy,he,e]⟩
   cbv
   exact ⟨i+1,by exact aW,by exact aW,⟨⟨bW,cy⟩⟩⟩
 ·have b9:a.length<=i:=aL
  have hr:true=decide (a=b):=by
   rw [eq_comm,decide_eq_true_eq]
   rw [jj (by omega),jj (by omega)] at he
   exact he
  cbv
  exact ⟨by have eR:=hr;exact bJ⟩
@[reducible] noncomputable def Xl:Vc.Spec where
 α:=Int
 args x:=[.i .i64 (λ_=>x)]
 pre x:=True
 res x:=.b (λ_=>false)
theorem afA:dm (PP ()) 72 Xl:=by
 refine fl (o9 0 0) (fo Try.func72) (λx=>⟨trivial,trivial⟩) (λx=>trivial) ?_
 intro x _
 have e:(!gA x x)=false:=by simp [gA]
 refine ⟨?_⟩
 cbv
 exact ⟨by have nq:=e;exact bJ⟩
def pZ (a b:Int):Int:=if a < b then -1 else if b < a then 1 else 0
structure AB where
 a:Int
 b:Int
@[reducible] noncomputable def Ns:Vc.Spec where
 α:=AB
 args x:=[.i .i64 (λ_=>x.a),.i .i64 (λ_=>x.b)]
 pre x:=True
 res x:=.i .i64 (λ_=>pZ x.a x.b)
noncomputable def aiv (n m:Nat):Ctx:=cP n m [] [(72,Xl)]
theorem afB (n m:Nat):CB PP (aiv n m):=cR n m trivial ⟨afA,trivial⟩
theorem UB:dm (PP ()) 59 Ns:=by
 refine fl (afB 0 0) (fo Try.func59) (λx=>⟨trivial,trivial,trivial⟩) (λx=>trivial) ?_
 rintro ⟨a,b⟩ _
 have q1:a < b->(-1:Int)=pZ a b:=λh=>by simp [pZ,h]
 have q2:b<=a->b < a->(1:Int)=pZ a b:=λk h=>by unfold pZ;rw [if_neg (by omega),if_pos h]
 have q3:b<=a->a<=b->(0:Int)=pZ a b:=λk h=>by unfold pZ;rw [if_neg (by omega),if_neg (by omega)]
 refine ⟨?_⟩
 cbv
 refine ⟨a,⟨by exact a7,trivial⟩,?_⟩
 cbv
 refine ⟨b,⟨by exact a7,trivial⟩,?_⟩
 cbv
 refine ⟨λh=>(by have:=h.out;cases this),λh=>?_⟩
 clear h
 cbv
 refine ⟨λh=>(by have:=h.out;cases this),λh=>?_⟩
 clear h
 cbv
 refine ⟨λh=>?_,λh=>?_⟩
 ·have e:=q1 aL
  cbv
  exact ⟨by have gE:=e;exact bJ⟩
 have n1:b<=a:=aL
 clear h
 cbv
 refine ⟨λh=>?_,λh=>?_⟩
 ·have e:=q2 n1 aL
  cbv
  exact ⟨by have gE:=e;exact bJ⟩
 have e:=q3 n1 aL
 cbv
 exact ⟨by have gE:=e;exact bJ⟩
def uZ:List Int->Int
 | []=>0
 | x :: r=>if x=0 then uZ r else x
theorem afC {l:List Int} {x:Int} (hx:¬x=0):∀{i:Nat},l[i]?=some x->(∀j y,j < i->l[j]?=some y->y=0)->x=uZ l:=by
 induction l with
 | nil=>intro i h;simp at h
 | cons y r ih =>
  intro i h k
  unfold uZ
  cases i with
  | zero=>simp at h;subst h;rw [if_neg hx]
  | succ i=>rw [if_pos (k 0 y (by omega) rfl)];exact ih (by simpa using h) λj z hj hz=>k (j+1) z (by omega) (by simpa using hz)
theorem Vj:∀{l:List Int},(∀(j:Nat) (y:Int),l[j]?=some y->y=0)->(0:Int)=uZ l
 | [],_=>rfl
 | x :: r,k=>by unfold uZ;rw [if_pos (k 0 x rfl)];exact Vj λj y hy=>k (j+1) y (by simpa using hy)
@[reducible] noncomputable def Xm:Vc.Spec where
 α:=List Int
 args l:=[.sl 1 bH (λ_=>l)]
 pre l:=l.length<=1000000
 res l:=.i .i64 (λ_=>uZ l)
theorem afD:dm (PP ()) 58 Xm:=by
 refine fl (o9 0 0) (fo Try.func58) (λa=>⟨λx=>(dq x).1,trivial⟩) (λa=>trivial) ?_
 intro l hx
 have hl:l.length<=1000000:=hx
 refine ⟨?_⟩
 cbv
 refine Sat.eE (o9 0 0) 0 5 [] (λi:Nat=>[(6,.sl 1 bH (λ_=>l)),(7,.i .i64 (λ_=>(l.length:Int))),(8,.i .i64 λ_=>(i:Int))]) (λ_=>[]) (λi=>i<=l.length/\∀j y,j < i->l[j]?=some y->y=0) (λi=>l.length - i) 0 (by exact aW) (by exact aW) ⟨cK _,λj y h=>absurd h (sZ _)⟩ ?_
 rintro i ⟨hi,du⟩
 have hi:i<=l.length:=hi
 have h0:=n0 i
 have h1:=eO (i:=i) (by omega)
 cbv
 refine ⟨λh=>?_,λh=>?_⟩
 ·have bP:i < l.length:=aL
  have cy:l.length - (i+1) < l.length - i:=by omega
  refine (cC bP).elim λx hx=>?_
  cbv
  refine ⟨x,⟨h0,hx⟩,?_⟩
  cbv
  refine ⟨λh=>?_,λh=>?_⟩
  ·have bM:¬x=0:=aL
   have hr:=afC bM hx du
   cbv
   exact ⟨by have bE:=hr;exact bJ⟩
  ·have e:x=0:=aL
   have bW:i+1<=l.length/\∀j y,j < i+1->l[j]?=some y->y=0:=⟨bP,λj y hj hy=>by
    by_cases qY:j=i
    ·subst qY;rw [hx] at hy;cases hy;exact e
    ·exact du j y (by omega) hy⟩
   cbv
   exact ⟨i+1,by exact aW,by exact aW,⟨⟨bW,cy⟩⟩⟩
 ·have b9:l.length<=i:=aL
  have hr:=Vj (l:=l) λj y hy=>du j y (by have:=(bq.1 hy).1;omega) hy
  cbv
  exact ⟨by have gE:=hr;exact bJ⟩
@[reducible] noncomputable def Xn:Vc.Spec where
 α:=L2
 args x:=[.sl 1 bH (λ_=>x.a),.sl 1 bH (λ_=>x.b)]
 pre x:=x.a.length<=1000000/\x.b.length<=1000000
 res x:=.i .i64 (λ_=>fB x.a x.b)
theorem acq {a b:List Int} {i:Nat} {x:Int} (hx:a[i]?=some x) (h:fB (a.drop i) (b.drop i)=fB a b):(b.length<=i->(1:Int)=fB a b)/\∀y,b[i]?=some y->(¬pZ x y=0->pZ x y=fB a b)/\(pZ x y=0->fB (a.drop (i+1)) (b.drop (i+1))=fB a b):=by
 obtain ⟨bP,hx⟩:=bq.1 hx
 rw [rC bP,hx] at h
 refine ⟨λhb=>?_,λy hy=>?_⟩
 ·rw [G3 hb] at h
  rw [<-h];rfl
 ·obtain ⟨jd,hy⟩:=bq.1 hy
  rw [rC jd,hy] at h
  rw [<-h]
  have e:∀A B:List Int,fB (x :: A) (y :: B)=if x < y then -1 else if y < x then 1 else fB A B:=λ_ _=>rfl
  rw [e]
  unfold pZ
  by_cases h1:x < y
  ·simp [h1]
  ·by_cases h2:y < x
   ·simp [h1,h2]
   ·simp [h1,h2]
theorem adu {a b:List Int} {i:Nat} (hi:a.length<=i) (jY:i<=a.length) (h:fB (a.drop i) (b.drop i)=fB a b):((a.length:Int) < b.length->(-1:Int)=fB a b)/\((b.length:Int)<=a.length->(0:Int)=fB a b):=by
 rw [G3 hi] at h
 rw [<-h]
 refine ⟨λhb=>?_,λhb=>?_⟩
 ·rw [rC (show i < b.length by omega)];rfl
 ·rw [G3 (by omega)];rfl
noncomputable def aiw (n m:Nat):Ctx:=cP n m [] [(59,Ns)]
theorem Vk (n m:Nat):CB PP (aiw n m):=cR n m trivial ⟨UB,trivial⟩
theorem afE:dm (PP ()) 60 Xn:=by
 refine fl (Vk 0 0) (fo Try.func60) (λa=>⟨λx=>(dq x).1,λx=>(dq x).1,trivial⟩) (λa=>trivial) ?_
 rintro ⟨a,b⟩ hx
 obtain ⟨ha,hb⟩:a.length<=1000000/\b.length<=1000000:=hx
 refine ⟨?_⟩
 cbv
 refine Sat.eE (Vk 0 0) 0 5 [] (λi:Nat=>[(9,.sl 1 bH (λ_=>a)),(10,.i .i64 (λ_=>(a.length:Int))),(11,.i .i64 λ_=>(i:Int))]) (λ_=>[]) (λi=>i<=a.length/\fB (a.drop i) (b.drop i)=fB a b) (λi=>a.length - i) 0 (by exact aW) (by exact aW) ⟨cK _,by simp⟩ ?_
 rintro i ⟨hi,he⟩
 have hi:i<=a.length:=hi
 have he:fB (a.drop i) (b.drop i)=fB a b:=he
 have h0:=n0 i
 have h1:=eO (i:=i) (by omega)
 cbv
 refine ⟨λh=>?_,λh=>?_⟩
 ·have bP:i < a.length:=aL
  have cy:a.length - (i+1) < a.length - i:=by omega
  refine (cC bP).elim λx hx=>?_
  have Aa:=acq hx he
  cbv
  refine ⟨x,⟨h0,hx⟩,?_⟩
  cbv
  refine ⟨λh=>?_,λh=>?_⟩
  ·have e:=Aa.1 aL
   cbv
   exact ⟨by have gE:=e;exact bJ⟩
  have jd:i < b.length:=aL
  refine (cC jd).elim λy hy=>?_
  have Jx:=Aa.2 y hy
  clear h
  cbv
  refine ⟨y,⟨h0,hy⟩,?_⟩
  cbv
  refine ⟨⟨x,y⟩,⟨by exact a7,trivial⟩,?_⟩
  cbv
  refine ⟨λh=>?_,λh=>?_⟩
  ·have e:=Jx.1 aL
   cbv
   exact ⟨by have bE:=e;exact bJ⟩
  ·have e:=Jx.2 aL
   have bW:i+1<=a.length/\fB (a.drop (i+1)) (b.drop (i+1))=fB a b:=⟨bP,e⟩
   cbv
   exact ⟨i+1,by exact aW,by exact aW,⟨⟨bW,cy⟩⟩⟩
 ·have b9:a.length<=i:=aL
  have q:=adu b9 hi he
  cbv
  refine ⟨λh=>?_,λh=>?_⟩
  ·have e:=q.1 aL
   cbv
   exact ⟨by have gE:=e;exact bJ⟩
  ·have e:=q.2 aL
   cbv
   exact ⟨by have gE:=e;exact bJ⟩
@[reducible] noncomputable def N9:Vc.Spec where
 α:=L2
 args x:=[.sl 1 bH (λ_=>x.a),.sl 1 bH (λ_=>x.b)]
 pre x:=x.a.length<=1000000/\x.b.length<=1000000
 res x:=.i .i64 (λ_=>iE x.a x.b)
theorem aeE (a b:List Int):uZ [pZ a.length b.length,fB a b]=iE a b:=by
 unfold uZ pZ iE uZ
 by_cases h1:a.length < b.length
 ·rw [if_pos (by omega:(a.length:Int) < b.length),if_pos h1];rfl
 ·by_cases h2:b.length < a.length
  ·rw [if_neg (by omega:¬(a.length:Int) < b.length),if_pos (by omega:(b.length:Int) < a.length),if_neg h1,if_pos h2];rfl
  ·rw [if_neg (by omega:¬(a.length:Int) < b.length),if_neg (by omega:¬(b.length:Int) < a.length),if_neg h1,if_neg h2,if_pos rfl]
   split
   ·rename_i e;rw [e];rfl
   ·rfl
noncomputable def aix (n m:Nat):Ctx:=cP n m [] [(59,Ns),(60,Xn),(58,Xm)]
theorem afF (n m:Nat):CB PP (aix n m):=cR n m trivial ⟨UB,afE,afD,trivial⟩
theorem afG:dm (PP ()) 57 N9:=by
 refine fl (afF 0 0) (fo Try.func57) (λa=>⟨λx=>(dq x).1,λx=>(dq x).1,trivial⟩) (λa=>trivial) ?_
 rintro ⟨a,b⟩ hx
 have gu:a.length<=1000000/\b.length<=1000000:=hx
 obtain ⟨A,hA⟩:∃A:Int,(a.length:Int)=A:=⟨_,rfl⟩
 obtain ⟨B,hB⟩:∃B:Int,(b.length:Int)=B:=⟨_,rfl⟩
 obtain ⟨U,hU⟩:∃U:Int,pZ A B=U:=⟨_,rfl⟩
 obtain ⟨V,hV⟩:∃V:Int,fB a b=V:=⟨_,rfl⟩
 have e:uZ [U,V]=iE a b:=by rw [<-hU,<-hV,<-hA,<-hB];exact aeE a b
 have h2:([U,V]:List Int).length<=1000000:=by show 2<=1000000;decide
 refine ⟨?_⟩
 cbv
 refine ⟨⟨A,B⟩,⟨by have bE:=hA;have fO:=hB;exact bJ,trivial⟩,?_⟩
 cbv
 refine ⟨⟨a,b⟩,⟨by exact a7,gu⟩,?_⟩
 cbv
 refine ⟨[U,V],⟨.inl ⟨by have bE:=hU;have fO:=hV;exact bJ,rfl⟩,h2⟩,?_⟩
 cbv
 exact ⟨by have bE:=e;exact bJ⟩
def I5 (n:Net) (s:dJ):List SV:=[.sl 3 jR (λ_=>n.ins),.sl 5 lT (λ_=>n.bU),.sl 3 jR (λ_=>n.outs),.sl 1 bH (λ_=>n.bf),.sl 1 bH (λ_=>s.labels),.sl 1 zp (λ_=>s.e6),.sl 1 fR (λ_=>s.leaves)]
theorem UC (n:Net) (s:dJ):bZ (I5 n s):=⟨λx=>(rI x).1,λx=>(um x).1,λx=>(rI x).1,λx=>(dq x).1,λx=>(dq x).1,λx=>(SL x).1,λx=>(qF x).1,trivial⟩
structure aiy where
 n:Net
 s:dJ
 l:List Int
structure kD (L l:List Int):Prop where
 len:l.length<=1000000
 mem:∀v∈l,0<=v/\v < L.length
 gR:∀x∈L,0<=x/\x<=1000000
theorem kD.le {L l:List Int} (h:kD L l):0<=bY L l/\bY L l<=1000000:=by
 refine ⟨xm L l,w9 (by decide) λv hv=>?_⟩
 have hb:=h.mem v hv
 rw [List.getD_eq_getElem?_getD,eB (show v.toNat < L.length by omega)]
 exact (h.gR _ (Lr _)).2
theorem Rw {L l:List Int} {i:Nat} {v x:Int} (hv:l[i]?=some v) (hx:L[v.toNat]?=some x):max (bY L (l.take i)) x=bY L (l.take (i+1)):=by
 unfold bY
 rw [jm,hv,nJ,List.foldl_append,mj,Dx,List.getD_eq_getElem?_getD,hx]
 rfl
@[reducible] noncomputable def EW:Vc.Spec where
 α:=aiy
 args x:=[.cZ (I5 x.n x.s) 0,.sl 1 bH (λ_=>x.l)]
 pre x:=kD x.s.labels x.l
 res x:=.i .i64 (λ_=>bY x.s.labels x.l)
theorem HY:dm (PP ()) 48 EW:=by
 refine fl (o9 0 0) (fo Try.func48) (λa=>⟨UC a.n a.s,λx=>(dq x).1,trivial⟩) (λa=>trivial) ?_
 rintro ⟨n,⟨L,C,F⟩,l⟩ hx
 have hx:kD L l:=hx
 have nm:=hx.len
 have Pv:bY L (l.take 0)=0:=rfl
 refine ⟨?_⟩
 cbv
 refine Sat.eE (o9 0 0) 0 5 [] (λi:Nat=>[(5,.i .i64 (λ_=>bY L (l.take i))),(8,.sl 1 bH (λ_=>l)),(9,.i .i64 (λ_=>(l.length:Int))),(10,.i .i64 λ_=>(i:Int))]) (λ_=>[]) (λi=>i<=l.length) (λi=>l.length - i) 0 (by have gE:=Pv.symm;exact a8) (by exact aW) (cK _) ?_
 intro i hi
 have hi:i<=l.length:=hi
 have h0:=n0 i
 have h1:=eO (i:=i) (by omega)
 cbv
 refine ⟨λh=>?_,λh=>?_⟩
 ·have bP:i < l.length:=aL
  have cy:l.length - (i+1) < l.length - i:=by omega
  refine (cC bP).elim λv hv=>?_
  have hb:=hx.mem v (cL hv)
  refine (cC (l:=L) (i:=v.toNat) (by omega)).elim λx lG=>?_
  have cS:=Rw hv lG
  have ko:=hb.1
  cbv
  refine ⟨v,⟨h0,hv⟩,?_⟩
  cbv
  refine ⟨x,⟨ko,lG⟩,?_⟩
  cbv
  exact ⟨i+1,by have bE:=cS;have fO:=h1;exact a8,by exact aW,⟨⟨bP,cy⟩⟩⟩
 ·have b9:l.length<=i:=aL
  have hr:bY L (l.take i)=bY L l:=by rw [jj b9]
  cbv
  exact ⟨by have bE:=hr;exact bJ⟩
theorem LY {f:List Int->Int} {x:List Int}:∀{r:List (List Int)} {m:List Int},iN f m (r++[x])=if f x - f (iN f m r) < 0 then x else iN f m r
 | [],m=>by
  show (if f x - f m < 0 then iN f x [] else iN f m [])=_
  rfl
 | y :: r,m=>by
  show (if f y - f m < 0 then iN f y (r++[x]) else iN f m (r++[x]))=if f x - f (if f y - f m < 0 then iN f y r else iN f m r) < 0 then x else (if f y - f m < 0 then iN f y r else iN f m r)
  by_cases hc:f y - f m < 0
  ·rw [if_pos hc,if_pos hc];exact LY
  ·rw [if_neg hc,if_neg hc];exact LY
def aiB (n:Net) (k:Nat):List SV:=[.sl 3 jR (λ_=>n.ins),.sl 5 lT (λ_=>n.bU),.sl 3 jR (λ_=>n.outs),.sl 1 bH (λ_=>n.bf),.own (k+1),.own (k+2),.own (k+3)]
def B9 (n:Net) (s:dJ) (k:Nat):List Slot:=[.fix 91 (aiB n k),.dyn 3 1 bH (λ_=>s.labels),.dyn 39 1 zp (λ_=>s.e6),.dyn 32 1 fR (λ_=>s.leaves)]
structure aiC where
 n:Net
 s:dJ
 m:List Int
 r:List (List Int)
 b:List Int
@[reducible] noncomputable def ahd:nU where
 α:=aiC
 args x:=[.own 5,.fn (.func 47) [] [.ptr 0 0]]
 io x:=.fix 86 [.ptr 1 0] :: (B9 x.n x.s 1++[.dyn 32 1 fR (λ_=>x.m :: x.r)])
 pre x:=x.r.length<=100000000/\(∀y∈x.m :: x.r,kD x.s.labels y)/\iN (bY x.s.labels) x.m x.r=x.b
 β:=Unit
 post _ _:=True
 mv:=[]
 res x _:=.sl 1 bH (λ_=>x.b)
 kZ x _:=.fix 86 [.ptr 1 0] :: (B9 x.n x.s 1++[.dyn 32 1 fR (λ_=>x.m :: x.r)])
noncomputable def aiD (n m:Nat):Ctx:=cP n m [(47,Try.f47)] [(48,EW)]
theorem Vl (n m:Nat):CB PP (aiD n m):=cR n m ⟨fo Try.func47,trivial⟩ ⟨HY,trivial⟩
theorem aeF:lW PP 46 ahd:=by
 refine qV (Vl 6 0) (fo Try.func46) (λa y=>rfl) (λa=>⟨rfl,rfl⟩) xe ?_
 rintro ⟨n,⟨LL,CC,FF⟩,m,r,b⟩ hx
 obtain ⟨hr,iZ,Pw⟩:r.length<=100000000/\(∀y∈m :: r,kD LL y)/\iN (bY LL) m r=b:=hx
 have h00:(m :: r)[(0:Int).toNat]?=some m:=rfl
 have px:∀k,kD LL (iN (bY LL) m (r.take k)):=λk=>iZ _ (by
  rcases cj.1 (DE (f:=bY LL) (r:=r.take k) (m:=m)) with h|h
  ·rw [h];simp
  ·exact rD _ (vw h))
 obtain ⟨Bf,FG⟩:∃Bf:Nat->List Int,∀i,Bf i=iN (bY LL) m (r.take (i - 1)):=⟨_,λ_=>rfl⟩
 have OG:Bf 1=m:=by rw [FG];rfl
 have ahe:∀i,r.length<=i - 1->Bf i=b:=λi h=>by rw [FG,jj h,Pw]
 have cS:∀i x,1<=i->r[i - 1]?=some x->(bY LL x - bY LL (Bf i) < 0->x=Bf (i+1))/\(0<=bY LL x - bY LL (Bf i)->Bf i=Bf (i+1)):=λi x hi hk=>by
  have e:Bf (i+1)=iN (bY LL) m (r.take (i - 1)++[x]):=by
   rw [FG,show i+1 - 1=(i - 1)+1 by omega,jm,hk,nJ]
  rw [e,LY,<-FG]
  exact ⟨λh=>by rw [if_pos h],λh=>by rw [if_neg (by omega)]⟩
 have aiE:∀i,kD LL (Bf i):=λi=>by rw [FG];exact px _
 have Pj:0<=(0:Int)/\(0:Int).toNat < (m :: r).length:=⟨nL _,Nat.zero_lt_succ _⟩
 refine ⟨?_⟩
 cbv
 refine ⟨λh=>?_,λ_=>?_⟩
 ·have h':(((m :: r).length:Nat):Int) < 1:=aL
  cases (show False by rw [oy] at h';omega)
 cbv
 refine ⟨⟨Pj⟩,m,⟨h00,rfl⟩,?_⟩
 cbv
 refine Sat.eE (Vl 6 0) 6 5 [] (λi:Nat=>[(5,.sl 1 bH (λ_=>Bf i)),(6,.i .i64 (λ_=>(i:Int)))]) (λ_=>[]) (λi=>1<=i/\i<=r.length+1) (λi=>r.length+1 - i) 1 (by have iz:=OG.symm;exact a8) (by exact aW) ⟨fP _,Lv _ _⟩ ?_
 intro i hi
 obtain ⟨gB,hi⟩:1<=i/\i<=r.length+1:=hi
 obtain ⟨B,hB⟩:∃B,Bf i=B:=⟨_,rfl⟩
 have Zo:kD LL B:=hB ▸ aiE i
 have h0:=n0 i
 have h1:=eO (i:=i) (by omega)
 cbv
 refine ⟨λh=>?_,λh=>?_⟩
 ·have bP:i < (m :: r).length:=aL
  have yg:i < r.length+1:=bP
  have gB:1<=i:=gB
  have cy:r.length+1 - (i+1) < r.length+1 - i:=by omega
  refine (cC bP).elim λx hx=>?_
  have lF:r[i - 1]?=some x:=by rw [<-hx,show i=(i - 1)+1 by omega];rfl
  have Xo:=iZ x (cL hx)
  obtain ⟨e1,e2⟩:=cS i x gB lF
  rw [hB] at e1 e2
  have e:IntKind.i64.wrap (bY LL x - bY LL B)=bY LL x - bY LL B:=by have:=Xo.le;have:=Zo.le;exact ei (by omega) (by omega)
  have jW:(m :: r)[(i:Int).toNat]?=some x:=hx
  have kX:0<=(i:Int)/\(i:Int).toNat < (m :: r).length:=⟨h0,bP⟩
  have gl:(1<=i+1/\i+1<=r.length+1)/\r.length+1 - (i+1) < r.length+1 - i:=⟨⟨Lv _ _,by omega⟩,cy⟩
  cbv
  refine ⟨⟨kX⟩,x,⟨jW,rfl⟩,?_⟩
  cbv
  refine ⟨⟨n,⟨LL,CC,FF⟩,x⟩,⟨.inl ⟨by exact a7,rfl⟩,Xo⟩,?_⟩
  cbv
  refine ⟨⟨n,⟨LL,CC,FF⟩,B⟩,⟨.inl ⟨by have iz:=hB;exact bJ,rfl⟩,Zo⟩,?_⟩
  cbv
  refine ⟨λh=>?_,λh=>?_⟩
  ·have aQ:IntKind.i64.wrap (bY LL x - bY LL B) < 0:=aL
   have e:=e1 (e ▸ aQ)
   cbv
   refine ⟨⟨kX⟩,x,⟨jW,rfl⟩,?_⟩
   cbv
   exact ⟨i+1,by have iz:=e;have bE:=h1;exact a8,by exact aW,⟨gl⟩⟩
  ·have b9:0<=IntKind.i64.wrap (bY LL x - bY LL B):=aL
   have e:=hB.trans (e2 (e ▸ b9))
   cbv
   exact ⟨i+1,by have iz:=e;have bE:=h1;exact a8,by exact aW,⟨gl⟩⟩
 ·have b9:(m :: r).length<=i:=aL
  have b9:r.length<=i - 1:=Nat.le_sub_of_add_le b9
  have hr:=ahe i b9
  cbv
  exact ⟨(),[],[],by have iz:=hr;exact a8,by exact aW,⟨trivial⟩⟩
end Go.Proofs.Pk
