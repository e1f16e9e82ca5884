import Derived.Test.YthnhbemmlfaihaaC6
import Derived.RangeFuncRecord
import Derived.OrdersIn
import Derived.LoopNIn
import Derived.Deep.LoopGhost
set_option linter.unusedVariables false
set_option linter.unusedSimpArgs false
set_option maxRecDepth 10000
set_option maxHeartbeats 64000000
namespace Go.Vc
open Go
def iO (X:Ctx) (ops:List Oper):List (Oper × Nat)->St->(St->Prop)->Prop
 | [],s,k=>k s
 | (o,l) :: r,s,k=>Ie X ops o l s λs'=>iO X ops r s' k
def ef:List Oper->Nat->List (Oper × Nat)
 | [],_=>[]
 | o :: r,n=>(o,n) :: ef r (match fh o.op with|true=>n+1|false=>n)
def nT:List Oper->Nat
 | []=>0
 | o :: r=>(match fh o.op with|true=>1|false=>0)+nT r
def iI:Nat->List Slot
 | 0=>[]
 | n+1=>.un :: iI n
def ael (X:Ctx) (ops:List Oper) (s:St) (k:St->Prop):Prop :=
 iO X ops (ef ops s.b.length) { s with b:=s.b++iI (nT ops) } k
def s8:Op->Bool
 | .defer _=>true
 | _=>false
def rH (ops:List Oper):Bool:=ops.all λo=>match pO o.op with|true=>o.dst.isNone|false=>!s8 o.op
def RF (r:Bool) (F:Fence):Prop:=match r with
 | false=>F=Fence.wide
 | true=>∃l,F=Fence.wide.inRound l
section agG
variable {P:Program} {r:Bool} {F:Fence}
theorem RF.fn (R:RF r F) (g:FuncId):F.fn g:=by
 cases r
 ·have R:F=_:=R;subst R;trivial
 ·obtain ⟨l,rfl⟩:=R;trivial
theorem RF.depth (R:RF r F):F.depth=none:=by
 cases r
 ·have R:F=_:=R;subst R;rfl
 ·obtain ⟨l,rfl⟩:=R;rfl
theorem RF.calls (R:RF r F) {n:Nat} {g:FuncId} {args:Array Value} {w:World} {K:Ending->World->Prop} (h:Calls P g args w K):CallsIn F n P g args w K:=by
 have h':CallsIn Fence.wide n P g args w K:=callsIn_wide.2 h
 cases r
 ·have R:F=_:=R;subst R;exact h'
 ·obtain ⟨l,rfl⟩:=R;exact h'
theorem RF.rows (R:RF r F) {n:Nat} {row:String} {args:Array Value} {w:World} {K:Value->World->Prop} (h:Rows P row args w K):RowsIn F n P row args w K:=by
 have h':RowsIn Fence.wide n P row args w K:=λc cs _=>by
  obtain ⟨v,w',h1,h2⟩:=h c cs
  exact ⟨v,w',h1,stepsIn_wide.2 h2⟩
 cases r
 ·have R:F=_:=R;subst R;exact h'
 ·obtain ⟨l,rfl⟩:=R;exact h'
theorem RF.nd (R:RF r F) {n:Nat}:F.depth.isSome=true->1<=n:=λh=>by rw [R.depth] at h;cases h
theorem vP (R:RF r F) {o:Oper} (fe:s8 o.op=false) {a:Act} {w:World} {K:Act->World->Prop} {Q:Exit->Act->World->Prop} (h:o.wp P a w K Q):o.wpIn F 0 P a w K Q:=by
 refine ⟨λg _=>R.fn g,?_⟩
 rw [Oper.semAt_eq _ _ _ (λc e=>by rw [e] at fe;cases fe)]
 unfold Oper.wp at h
 generalize (execOp a.eval o).run P w=z at *
 cases z with
 | ok x w' =>
  cases x<;>simp only [Oper.upon,Oper.uponIn] at h ⊢<;>first|exact h|exact ⟨R.nd,R.calls h⟩|exact ⟨R.nd,R.rows h⟩|exact h.elim
 | halt x w'=>cases x<;>simp only [Oper.upon,Oper.uponIn] at h ⊢<;>exact h
theorem HN (R:RF r F) {ops:Array Oper} {Q:Exit->Act->World->Prop} (hs:rH ops.toList=true) (hQ:¬LetsOut Q):∀(l:List Nat) (a:Act) (w:World),wpOps P ops Q l a w->wpOpsIn F 0 P ops Q l a w
 | [],a,w,h=>h
 | i :: l,a,w,h=>by
  rw [wpOps_cons] at h
  rw [wpOpsIn_cons]
  unfold wpOp at h
  unfold wpOpIn
  cases ho:ops[i]? with
  | none=>rw [ho] at h;exact HN R hs hQ l a w h
  | some o =>
   rw [ho] at h
   simp only at h ⊢
   by_cases hw:Region.wanted o (yielded ops a.tmps)=true
   ·rw [if_pos hw] at h ⊢
    rcases h with h|h
    ·refine Oper.wpIn_mono (λa w h=>HN R hs hQ l a w h) (vP R ?_ h)
     have:=gK.1 hs o (by simpa using uc ho)
     cases cS:pO o.op
     ·rw [cS] at this;simpa using this
     ·cases e8:o.op<;>rw [e8] at cS<;>first|rfl|cases cS
    ·exact absurd h.2 hQ
   ·rw [if_neg hw] at h ⊢
    exact ⟨λg _=>R.fn g,HN R hs hQ l _ w h⟩
end agG
theorem HO:∀n,iI n=List.replicate n .un
 | 0=>rfl
 | n+1=>by rw [iI,HO n];rfl
section
variable {P:Program} {X:Ctx} {f:Fr} {s:St} {η:Nat->Value} {H:aV} {a:Act} {w:World}
theorem aem (b:List Slot) (n l:Nat):aP (b++iI n) l=aP b l:=by
 unfold aP
 by_cases h:l < b.length
 ·rw [iu h]
 ·rw [pI (by omega),HO,ua,ox (by omega)]
  split<;>rename_i e
  ·split at e
   ·simp at e;subst e;rfl
   ·cases e
  ·rfl
theorem Den.ext (D:Den f s η H a w) (n:Nat):Den f { s with b:=s.b++iI n } η H a w:=by
 have hq:aP (s.b++iI n)=aP s.b:=funext λl=>aem s.b n l
 exact { D with
  t:=by rw [hq];exact D.t
  sv:=by rw [hq];exact D.sv
  sl:=λl x hx=>by
   rw [hq]
   by_cases h:l < s.b.length
   ·rw [iu h] at hx;exact D.sl l x hx
   ·rw [pI (by omega),HO,ua] at hx
    split at hx
    ·simp at hx;subst hx;trivial
    ·cases hx
  dj:=by rw [hq];exact D.dj
  dh:=by rw [hq];exact D.dh }
structure jT (ops:Array Oper) (s:St) (L:List (Nat × Oper × Nat)):Prop where
 get:∀x∈L,ops[x.1]?=some x.2.1
 store:∀x∈L,Bs x.2.1
 un:∀x∈L,fh x.2.1.op=true->s.b[x.2.2]?=some .un
 gR:L.Pairwise λx y=>fh x.2.1.op=true->fh y.2.1.op=true->x.2.2≠y.2.2
def ol (L:List (Nat × Oper × Nat)):List (Oper × Nat):=L.map (·.2)
theorem jT.tail {ops:Array Oper} {x:Nat × Oper × Nat} {L:List (Nat × Oper × Nat)} (W:jT ops s (x :: L)) {s1:St} (h:Out X ops.toList x.2.1 x.2.2 s s1):jT ops s1 L where
 get y hy:=W.get y (by simp [hy])
 store y hy:=W.store y (by simp [hy])
 un y hy ha:=afi h (W.un y (by simp [hy]) ha) λhx=>(eS.1 W.gR).1 y hy hx ha
 gR:=(eS.1 W.gR).2
theorem qz {ops:List Oper} {x:Oper × Nat} {L:List (Oper × Nat)} {k:St->Prop}:iO X ops (x :: L) s k↔∃s',Out X ops x.1 x.2 s s'/\iO X ops L s' k:=by
 obtain ⟨o,l⟩:=x
 exact Sk X ops o l s _
theorem Eg (C:X.Ok P) {ops:Array Oper} {k:St->Prop} (x:Nat × Oper × Nat) (B:List (Nat × Oper × Nat)):∀(A:List (Nat × Oper × Nat)) {s:St} {Ks:Tmp->List Nat},Good f s->nY ops.toList Ks s->(∀y∈A++x :: B,rS ops.toList Ks y.2.1 y.2.2)->jT ops s (A++x :: B) ->
  (∀p∈A,tj ops.toList p.2.1 x.2.1)->iO X ops.toList (ol (A++x :: B)) s k->iO X ops.toList (ol (x :: A++B)) s k
 | [],s,_,_,_,_,_,_,h=>h
 | p :: A,s,Ks,G,FA,hK,W,hA,h=>by
  have mp:p.2.1∈ops.toList:=by have:=W.get p (by simp);exact Array.mem_toList_iff.2 (uc this)
  have mx:x.2.1∈ops.toList:=by have:=W.get x (by simp);exact Array.mem_toList_iff.2 (uc this)
  obtain ⟨s1,h1,h2⟩:=qz.1 h
  have G1:=G.out C (W.get p (by simp)) (λha=>W.un p (by simp) ha) (W.store p (by simp)) h1
  have h3:=Eg C x B A G1 (FA.out mp (hK p (by simp)) (λf S h=>(C.sp f S h).lr) h1) (λy hy=>hK y (by simp only [y3,cj];exact .inr hy)) (W.tail h1) (λq hq=>hA q (by simp [hq])) h2
  obtain ⟨s2,h4,h5⟩:=qz.1 h3
  have zL:=(eS.1 W.gR).1 x (by simp)
  obtain ⟨Cu,h6,h7⟩:=swap G (hA p (by simp)).t ((hA p (by simp)).sep FA mp mx) ((hA p (by simp)).symm.sep FA mx mp) (λha=>W.un p (by simp) ha) (λha=>W.un x (by simp) ha) zL h1 h4
  exact qz.2 ⟨Cu,h6,qz.2 ⟨s2,h7,h5⟩⟩
def oC (acc:List Nat) (o:Oper):Nat :=
 o.after.toList.foldl (λm e=>if Region.binds .any e then m ||| (2^e.on) ||| acc.getD e.on 0 else m) 0
def Ig (ops:List Oper):List Oper->List Oper->List Nat->Bool
 | [],_,_=>true
 | o :: r,pre,acc =>
  (o.after.toList.all λe=>!Region.binds .any e||Nat.blt e.on pre.length) &&
  (pre.zipIdx.all λp=>(oC acc o).testBit p.2||indep ops p.1 o) &&
  Ig ops r (pre++[o]) (acc++[oC acc o])
def DY (ops:List Oper):Bool:=Ig ops ops [] []
def lA (ops:List Oper) (j i:Nat):Prop:=∀S:Nat->Prop,(∀r o e,ops[r]?=some o->S r->e∈o.after.toList->Region.binds .any e=true->S e.on) ->
 (∀o e,ops[i]?=some o->e∈o.after.toList->Region.binds .any e=true->S e.on)->S j
theorem L9 (acc:List Nat) (es:List Edge) (m0 j:Nat) (h:(es.foldl (λm e=>if Region.binds .any e then m ||| (2^e.on) ||| acc.getD e.on 0 else m) m0).testBit j=true) :
  m0.testBit j=true\/∃e∈es,Region.binds .any e=true/\(e.on=j\/(acc.getD e.on 0).testBit j=true):=by
 induction es generalizing m0 with
 | nil=>exact .inl h
 | cons e es ih =>
  simp only [mj] at h
  rcases ih _ h with h|⟨e',h1,h2⟩
  ·split at h
   ·rename_i hb
    simp only [Nat.testBit_or,oz] at h
    rcases h with (h|h)|h
    ·exact .inl h
    ·exact .inr ⟨e,by simp,hb,.inl (by rw [Nat.testBit_two_pow] at h;simpa using h)⟩
    ·exact .inr ⟨e,by simp,hb,.inr h⟩
   ·exact .inl h
  ·exact .inr ⟨e',by simp [h1],h2⟩
structure Ordered (ops:List Oper):Prop where
 back:∀i o e,ops[i]?=some o->e∈o.after.toList->Region.binds .any e=true->e.on < i
 apart:∀i o j p,ops[i]?=some o->ops[j]?=some p->j < i->lA ops j i\/indep ops p o=true
theorem RG (ops:List Oper):∀(r pre:List Oper) (acc:List Nat),ops=pre++r->acc.length=pre.length ->
  (∀i j,i < pre.length->(acc.getD i 0).testBit j=true->lA ops j i) ->
  Ig ops r pre acc=true->(∀i o e,pre.length<=i->ops[i]?=some o->e∈o.after.toList->Region.binds .any e=true->e.on < i) /\
   ∀i o j p,pre.length<=i->ops[i]?=some o->ops[j]?=some p->j < i->lA ops j i\/indep ops p o=true
 | [],pre,acc,he,_,_,_=>by
  have hn:∀i o,pre.length<=i->ops[i]?=some o->False:=λi o hi ho=>by
   rw [he,yR,ox hi] at ho;cases ho
  exact ⟨λi o e hi ho=>(hn i o hi ho).elim,λi o j p hi ho=>(hn i o hi ho).elim⟩
 | o :: r,pre,acc,he,hl,hm,h=>by
  simp only [Ig,cf] at h
  obtain ⟨⟨h1,h2⟩,h3⟩:=h
  have qe:ops[pre.length]?=some o:=by rw [he];simp
  have Eo:∀e,e∈o.after.toList->Region.binds .any e=true->e.on < pre.length:=by
   intro e fc hb
   have:=gK.1 h1 e fc
   rw [hb] at this
   simpa [A7] using this
  have zw:∀j,(oC acc o).testBit j=true->lA ops j pre.length:=by
   intro j hj S hS hi
   rcases L9 acc o.after.toList 0 j hj with h|⟨e,h4,h5,h6⟩
   ·simp at h
   ·have x7:=hi o e qe h4 h5
    rcases h6 with h6|h6
    ·rw [<-h6];exact x7
    ·exact hm e.on j (Eo e h4 h5) h6 S hS λo' e' fS fc gz=>hS e.on o' e' fS x7 fc gz
  have ih:=RG ops r (pre++[o]) (acc++[oC acc o]) (by rw [he];simp) (by simp [hl]) (λi j hi hj=>by
   simp at hi
   by_cases aQ:i < pre.length
   ·refine hm i j aQ ?_
    rw [List.getD_eq_getElem?_getD,iu (by omega)] at hj
    rw [List.getD_eq_getElem?_getD];exact hj
   ·have:i=pre.length:=by omega
    subst this
    refine zw j ?_
    rw [List.getD_eq_getElem?_getD,pI (by omega)] at hj
    simpa [hl] using hj) h3
  simp only [fJ,oy,A4] at ih
  refine ⟨λi o' e hi fS fc gz=>?_,λi o' j p hi fS hp hj=>?_⟩
  ·by_cases lY:i=pre.length
   ·subst lY
    rw [qe] at fS;simp at fS;subst fS
    exact Eo e fc gz
   ·exact ih.1 i o' e (by omega) fS fc gz
  ·by_cases lY:i=pre.length
   ·subst lY
    rw [qe] at fS;simp at fS;subst fS
    have dL:pre[j]?=some p:=by rw [he,iu hj] at hp;exact hp
    have:=gK.1 h2 (p,j) (by rw [Bd];simpa using dL)
    simp only [oz] at this
    exact this.imp (zw j) id
   ·exact ih.2 i o' j p (by omega) fS hp hj
theorem QY {ops:List Oper} (h:DY ops=true):Ordered ops:=by
 obtain ⟨h1,h2⟩:=RG ops ops [] [] rfl rfl (λi j hi=>by simp at hi) h
 exact ⟨λi o e=>h1 i o e (cK _),λi o j p=>h2 i o j p (cK _)⟩
theorem Ud (C:X.Ok P) {ops:Array Oper} (O:Ordered ops.toList) {Q:Exit->Act->World->Prop} {k:St->Prop} (hk:∀s' η' H' a' w',Den f s' η' H' a' w'->k s'->Q .normal a' w') :
  ∀(n:Nat) (L:List (Nat × Oper × Nat)) {bT:Array Bool} {Ks:Tmp->List Nat} {s:St} {η:Nat->Value} {H:aV} {a:Act} {w:World},L.length=n->jT ops s L->L.Pairwise (λx y=>x.1 < y.1) ->
   (∀i,i < ops.size->(bT.getD i true=false↔∃x∈L,x.1=i))->(∀i,bT.getD i false=true\/bT.getD i true=false\/ops.size<=i) ->
   (∀i o e,ops[i]?=some o->bT.getD i false=true->e∈o.after.toList->Region.binds .any e=true->bT.getD e.on false=true) ->
   nY ops.toList Ks s->(∀y∈L,rS ops.toList Ks y.2.1 y.2.2)->Den f s η H a w->iO X ops.toList (ol L) s k->wpAny P .any ops Q n bT a w:=by
 intro n
 induction n with
 | zero =>
  intro L bT Ks s η H a w hn W kB mA eV vQ FA hK D h
  have:L=[]:=gL hn
  subst this
  refine ⟨?_,hk s η H a w D h⟩
  rw [DI]
  intro i hi
  obtain ⟨h0,o,ho,_⟩:=mem_ready.1 hi
  have aQ:=(fa.1 ho).1
  obtain ⟨x,hx,_⟩:=(mA i aQ).1 h0
  cases hx
 | succ n ih =>
  intro L bT Ks s η H a w hn W kB mA eV vQ FA hK D h
  constructor
  ·intro hr
   cases L with
   | nil=>simp at hn
   | cons x L =>
    have hx:=W.get x (by simp)
    have aQ:=(fa.1 hx).1
    have:x.1∈Region.ready .any ops bT:=by
     refine mem_ready.2 ⟨(mA x.1 aQ).2 ⟨x,by simp,rfl⟩,x.2.1,hx,λe he hb=>?_⟩
     have uD:=O.back x.1 x.2.1 e (by simpa using hx) (by simpa using he) hb
     rcases eV e.on with h1|h1|h1
     ·exact h1
     ·obtain ⟨y,hy,x8⟩:=(mA e.on (by omega)).1 h1
      rcases cj.1 hy with rfl|hy
      ·omega
      ·have:=(eS.1 kB).1 y hy;omega
     ·omega
    rw [hr] at this
    cases this
  ·intro i hi
   obtain ⟨h0,o,ho,tk⟩:=mem_ready.1 hi
   have aQ:=(fa.1 ho).1
   obtain ⟨x,hx,rfl⟩:=(mA i aQ).1 h0
   obtain ⟨A,B,rfl⟩:=Bm hx
   have gW:=W.get x (by simp)
   rw [ho] at gW
   simp at gW
   have iv:=j9.1 kB
   have hA:∀p∈A,tj ops.toList p.2.1 x.2.1:=by
    intro p hp
    have Jv:p.1 < x.1:=iv.2.2 p hp x (by simp)
    have sA:=W.get p (by simp [hp])
    rcases O.apart x.1 x.2.1 p.1 p.2.1 (by rw [<-gW];simpa using ho) (by simpa using sA) Jv with hF|hi
    ·
     have:=hF (λr=>bT.getD r false=true) (λr o' e hr hS he hb=>vQ r o' e (by simpa using hr) hS he hb)
      (λo' e fS he hb=>by
       have:o'=o:=by
        have h1:ops[x.1]?=some o':=by simpa using fS
        rw [ho] at h1;simpa using h1.symm
       subst this
       exact tk e (by simpa using he) hb)
     have jr:=(mA p.1 (fa.1 sA).1).2 ⟨p,by simp [hp],rfl⟩
     have zM:p.1 < bT.size:=by
      rcases oA p.1 bT.size with h|h
      ·exact h
      ·simp [yW h] at this
     simp [zM] at this jr
     rw [this] at jr;cases jr
    ·exact GO hi
   have h2:=Eg C x B A ⟨η,H,a,w,D⟩ FA hK W hA h
   obtain ⟨s1,h3,h4⟩:=qz.1 h2
   have ky:(A++x :: B).Perm (x :: (A++B)):=Dv
   have W':jT ops s (x :: (A++B)):={
    get:=λy hy=>W.get y (ky.mem_iff.2 hy)
    store:=λy hy=>W.store y (ky.mem_iff.2 hy)
    un:=λy hy=>W.un y (ky.mem_iff.2 hy)
    gR:=(ky.pairwise_iff (λ{a b} h h1 h2=>(h h2 h1).symm)).1 W.gR }
   refine DC C D (by rw [ho,gW]) (λha=>W.un x (by simp) ha) (W.store x (by simp)) h3 λη' H' a' w' D'=>?_
   have EJ:x.1 < bT.size:=by
    rcases oA x.1 bT.size with h|h
    ·exact h
    ·simp [yW h] at h0
   have pW:∀j (d:Bool),(bT.setIfInBounds x.1 true).getD j d=if x.1=j then true else bT.getD j d:=by
    intro j d
    by_cases hj:x.1=j
    ·subst hj;simp [EJ]
    ·rw [getD_set_ne d hj,if_neg hj]
   refine ih (A++B) (by simp at hn ⊢;omega) (W'.tail h3) ?_ ?_ ?_ ?_ (FA.out (Array.mem_toList_iff.2 (uc (W.get x (by simp)))) (hK x (by simp)) (λf S h=>(C.sp f S h).lr) h3) (λy hy=>hK y (ky.mem_iff.2 (by simp only [cj];exact .inr hy))) D' h4
   ·have:=iv
    exact j9.2 ⟨iv.1,(eS.1 iv.2.1).2,λp hp q hq=>iv.2.2 p hp q (by simp [hq])⟩
   ·intro j hj
    rw [pW]
    by_cases iy:x.1=j
    ·subst iy
     simp only [if_true]
     refine ⟨λh=>(by cases h),λ⟨y,hy,Yi⟩=>?_⟩
     exfalso
     rcases eA.1 hy with hy|hy
     ·have:=iv.2.2 y hy x (by simp);omega
     ·have:=(eS.1 iv.2.1).1 y hy;omega
    ·rw [if_neg iy,mA j hj]
     constructor
     ·rintro ⟨y,hy,rfl⟩
      rcases eA.1 hy with hy|hy
      ·exact ⟨y,by simp [hy],rfl⟩
      ·rcases cj.1 hy with rfl|hy
       ·exact absurd rfl iy
       ·exact ⟨y,by simp [hy],rfl⟩
     ·rintro ⟨y,hy,rfl⟩
      rcases eA.1 hy with hy|hy
      ·exact ⟨y,by simp [hy],rfl⟩
      ·exact ⟨y,by simp [hy],rfl⟩
   ·intro j
    rw [pW,pW]
    by_cases iy:x.1=j
    ·simp [iy]
    ·rw [if_neg iy,if_neg iy];exact eV j
   ·intro j o' e hj hl he hb
    rw [pW] at hl ⊢
    split at hl
    ·rename_i iy
     subst iy
     rw [ho] at hj;simp at hj;subst hj
     split
     ·rfl
     ·exact tk e (by simpa using he) hb
    ·split
     ·rfl
     ·exact vQ j o' e hj hl he hb
def Ih (ops:List Oper) (K:Tmp->List Nat) (x:Tmp) (A:List Tmp):List Tmp->Bool
 | []=>true
 | y :: r=>(match j2 ops 8 y with
  | none=>true
  | some B=>match tx A B with
   | true=>tx (K x) (K y)
   | false=>true)&&Ih ops K x A r
def Ik (ops:List Oper) (K:Tmp->List Nat) (x:Tmp) (A:List Tmp):List Oper->Bool
 | []=>true
 | j :: r=>(match fK j.op with
  | some ys=>(match zj ops A ys with
   | true=>Ih ops K x A ys
   | false=>true)
  | none=>true)&&Ik ops K x A r
def xM (ops:List Oper) (K:Tmp->List Nat):List Oper->Bool
 | []=>true
 | p :: r=>(match mF p.op with
  | true=>(match iY p.op with
   | some x=>(match j2 ops 8 x with
    | none=>true
    | some A=>Ik ops K x A ops)
   | none=>true)
  | false=>true)&&xM ops K r
theorem Sw {ops:List Oper} {A:List Tmp}:∀{ys:List Tmp},(∀y∈ys,∃B,j2 ops 8 y=some B/\tx A B=true)->zj ops A ys=true
 | [],_=>rfl
 | y :: r,h=>by
  obtain ⟨B,h1,h2⟩:=h y (by simp)
  simp only [zj,h1,h2,Dy]
  exact Sw λz hz=>h z (by simp [hz])
theorem Tm {ops:List Oper} {K:Tmp->List Nat} {x:Tmp} {A:List Tmp}:∀{ys:List Tmp},Ih ops K x A ys=true->(∀y∈ys,∃B,j2 ops 8 y=some B/\tx A B=true)->∀y∈ys,∀l∈K x,l∉K y
 | [],_,_,y,hy=>by cases hy
 | z :: r,h,hd,y,hy=>by
  simp only [Ih,cf] at h
  rcases cj.1 hy with rfl|hy
  ·obtain ⟨B,h1,h2⟩:=hd y (by simp)
   have h3:=h.1
   simp only [h1,h2] at h3
   exact T9 h3
  ·exact Tm h.2 (λz hz=>hd z (by simp [hz])) y hy
theorem Tn {ops:List Oper} {K:Tmp->List Nat} {x:Tmp} {A:List Tmp}:∀{r:List Oper},Ik ops K x A r=true->∀j∈r,∀ys,fK j.op=some ys->(∀y∈ys,∃B,j2 ops 8 y=some B/\tx A B=true) ->
  ∀y∈ys,∀l∈K x,l∉K y
 | [],_,j,hj,_,_,_=>by cases hj
 | k :: r,h,j,hj,ys,hy,hd=>by
  simp only [Ik,cf] at h
  rcases cj.1 hj with rfl|hj
  ·have h1:=h.1
   rw [hy] at h1
   simp only [Sw hd] at h1
   exact Tm h1 hd
  ·exact Tn h.2 j hj ys hy hd
theorem DZ {ops:List Oper} {K:Tmp->List Nat}:∀{r:List Oper},xM ops K r=true->∀p∈r,∀j∈ops,∀x ys,Cs ops p j x ys->mF p.op=true->∀y∈ys,∀l∈K x,l∉K y
 | [],_,p,hp,_,_,_,_,_,_=>by cases hp
 | k :: r,h,p,hp,j,hj,x,ys,F,hw=>by
  simp only [xM,cf] at h
  rcases cj.1 hp with rfl|hp
  ·have h1:=h.1
   rw [hw] at h1
   simp only [F.p] at h1
   obtain ⟨A,hA⟩:=F.ax
   rw [hA] at h1
   exact Tn h1 j hj ys F.j (F.d A hA)
  ·exact DZ h.2 p hp j hj x ys F hw
def V0 (ops:List Oper) (s:St):Bool:=xM ops (o6 ops (ef ops s.b.length) s) ops
def items (ops:List Oper) (n:Nat):List (Nat × Oper × Nat):=(ef ops n).zipIdx.map λp=>(p.2,p.1.1,p.1.2)
theorem KI:∀(ops:List Oper) (n:Nat),(ef ops n).length=ops.length
 | [],n=>rfl
 | o :: r,n=>by simp [ef,KI r]
theorem Ma:∀(ops:List Oper) (n i:Nat) (p:Oper × Nat),(ef ops n)[i]?=some p->ops[i]?=some p.1
 | [],n,i,p,h=>by simp [ef] at h
 | o :: r,n,0,p,h=>by simp [ef] at h;subst h;rfl
 | o :: r,n,i+1,p,h=>by simp only [ef,K5] at h ⊢;exact Ma r _ i p h
theorem Mu:∀(ops:List Oper) (n:Nat),∀p∈ef ops n,n<=p.2/\(fh p.1.op=true->p.2 < n+nT ops)
 | [],n,p,h=>by simp [ef] at h
 | o :: r,n,p,h=>by
  simp only [ef,cj] at h
  rcases h with rfl|h
  ·refine ⟨fP _,λha=>?_⟩
   simp only at ha
   simp only [nT,ha];omega
  ·have:=Mu r _ p h
   simp only [nT]
   cases hq:fh o.op<;>rw [hq] at this<;>simp only at this ⊢<;>exact ⟨by omega,λha=>by have:=this.2 ha;omega⟩
theorem Sx:∀(ops:List Oper) (n:Nat),(ef ops n).Pairwise λx y=>fh x.1.op=true->fh y.1.op=true->x.2≠y.2
 | [],n=>by simp [ef]
 | o :: r,n=>by
  simp only [ef,eS]
  refine ⟨λy hy hx _=>?_,Sx r _⟩
  rw [hx] at hy
  have:=(Mu r _ y hy).1
  simp only at this ⊢
  omega
theorem vD (ops:List Oper) (n:Nat):ol (items ops n)=ef ops n:=by
 unfold ol items
 rw [He]
 apply o0
 intro i
 simp only [k8,List.getElem?_zipIdx]
 cases (ef ops n)[i]?<;>simp
theorem ry (ops:List Oper) (n:Nat):(items ops n).map (·.1)=List.range ops.length:=by
 unfold items
 rw [He]
 apply o0
 intro i
 simp only [k8,List.getElem?_zipIdx]
 by_cases h:i < ops.length
 ·have h2:i < (ef ops n).length:=by rw [KI];exact h
  simp [h,h2]
 ·have h2:(ef ops n).length<=i:=by rw [KI];omega
  simp [h2,show ops.length<=i by omega]
theorem KU {ops:Array Oper} (hs:rH ops.toList=true) (s:St):jT ops { s with b:=s.b++iI (nT ops.toList) } (items ops.toList s.b.length):=by
 have mem:∀x∈items ops.toList s.b.length,(ef ops.toList s.b.length)[x.1]?=some x.2:=by
  intro x hx
  unfold items at hx
  obtain ⟨p,hp,rfl⟩:=jO.1 hx
  rw [Bd] at hp
  simpa using hp
 constructor
 ·intro x hx
  have:=Ma _ _ _ _ (mem x hx)
  simpa using this
 ·intro x hx he
  have:=Ma _ _ _ _ (mem x hx)
  have h2:=gK.1 hs x.2.1 (cL this)
  rw [he] at h2
  simpa using h2
 ·intro x hx ha
  have hg:=Mu ops.toList s.b.length x.2 (cL (mem x hx))
  have h2:=hg.2 ha
  simp only
  rw [pI hg.1,HO,ua,if_pos (by omega)]
 ·unfold items
  rw [pM]
  have:((ef ops.toList s.b.length).zipIdx).Pairwise λx y=>fh x.1.1.op=true->fh y.1.1.op=true->x.1.2≠y.1.2:=by
   have h:=Sx ops.toList s.b.length
   rw [<-List.zipIdx_map_fst 0 (ef ops.toList s.b.length),pM] at h
   exact h
  exact this
def sB (K:Act->World->Prop):Exit->Act->World->Prop
 | .normal,a,w=>K a w
 | _,_,_=>False
theorem D7 {K:Act->World->Prop}:¬LetsOut (sB K):=λ⟨_,_,h⟩=>h
end
structure Ext (r:Bool) (f f':Fr):Prop where
 h0:f'.H0=f.H0
 w0:f'.w0=f.w0
 sS:f'.sS=f.sS
 sV:f'.sV=f.sV
 gr:∃ms:List Nat,f'.dS=ms++f.dS/\ms.Nodup/\(∀D∈ms,f.F D=none/\f'.F D=some (.deferred (some []))/\f.H0 D=none)/\(∀b,b∉ms->f'.F b=f.F b)/\(r=true->ms=[])
theorem Ext.refl (r:Bool) (f:Fr):Ext r f f:=⟨rfl,rfl,rfl,rfl,[],rfl,xe,λ_ h=>by simp at h,λ_ _=>rfl,λ_=>rfl⟩
theorem Ext.trans {r:Bool} {f g h:Fr} (a:Ext r f g) (b:Ext r g h):Ext r f h:=by
 obtain ⟨ms,a1,a2,a3,a4,a5⟩:=a.gr
 obtain ⟨ns,b1,b2,b3,b4,b5⟩:=b.gr
 have hd:∀D∈ns,D∉ms:=λD h1 h2=>by
  have:=(a3 D h2).2.1
  rw [(b3 D h1).1] at this;cases this
 refine ⟨b.h0.trans a.h0,b.w0.trans a.w0,b.sS.trans a.sS,b.sV.trans a.sV,ns++ms,by rw [b1,a1,vx],?_,?_,?_,λhr=>by rw [b5 hr,a5 hr];rfl⟩
 ·rw [G7]
  exact ⟨b2,a2,λx hx y hy e=>hd x hx (e ▸ hy)⟩
 ·intro D hD
  rcases eA.1 hD with h1|h1
  ·refine ⟨?_,(b3 D h1).2.1,by rw [<-a.h0];exact (b3 D h1).2.2⟩
   rw [<-a4 D (hd D h1)];exact (b3 D h1).1
  ·refine ⟨(a3 D h1).1,?_,(a3 D h1).2.2⟩
   rw [b4 D (λh2=>hd D h2 h1)];exact (a3 D h1).2.1
 ·intro b hb
  rw [b4 b (λh=>hb (uf _ h)),a4 b (λh=>hb (xd _ h))]
theorem Ext.eq {f f':Fr} (h:Ext true f f'):f'=f:=by
 obtain ⟨ms,a1,_,_,a4,a5⟩:=h.gr
 have:=a5 rfl
 subst this
 obtain ⟨F,H0,w0,sS,sV,dS⟩:=f
 obtain ⟨F',H0',w0',sS',sV',dS'⟩:=f'
 have e1:F'=F:=funext λb=>a4 b (by simp)
 have e2:=h.h0;have e3:=h.w0;have e4:=h.sS;have e5:=h.sV
 simp at a1 e2 e3 e4 e5
 subst e1;subst e2;subst e3;subst e4;subst e5;subst a1
 rfl
def ng (r:Bool) (f:Fr) (k:Exit->St->Prop):Exit->Act->World->Prop :=
 λe a' w'=>∃f' s' η' H',Ext r f f'/\Den f' s' η' H' a' w'/\k e s'
theorem ng.up {r:Bool} {f f':Fr} {k:Exit->St->Prop} (h:Ext r f f') {e:Exit} {a:Act} {w:World} (p:ng r f' k e a w):ng r f k e a w:=by
 obtain ⟨g,s',η',H',h1,h2,h3⟩:=p
 exact ⟨g,s',η',H',h.trans h1,h2,h3⟩
theorem ng.of {r:Bool} {f:Fr} {k:Exit->St->Prop} {e:Exit} {s:St} {η:Nat->Value} {H:aV} {a:Act} {w:World} (D:Den f s η H a w) (h:k e s):ng r f k e a w:=⟨f,s,η,H,Ext.refl r f,D,h⟩
theorem RF.inRound {r:Bool} {F:Fence} (R:RF r F) (l:Nat):RF true (F.inRound l):=by
 cases r
 ·have R:F=_:=R;subst R;exact ⟨l,rfl⟩
 ·obtain ⟨m,rfl⟩:=R;exact ⟨l,rfl⟩
section
variable {F:Fence} {n:Nat} {P:Program} {Q:Exit->Act->World->Prop} {a:Act} {w:World}
theorem wpIn_loop_ghost {c:Code} (I:Nat->Act->World->Prop) (n₀:Nat) (h₀:I n₀ a w)
  (round:∀m a w,I m a w->c.wpIn F n P (Exit.then (λa' w'=>∃n',n' < m/\I n' a' w') Q) a w):(Code.loop c).wpIn F n P Q a w:=by
 refine wpIn_loop (λa w=>∃n,I n a w) (λa w=>leastOf (λn=>I n a w)) ⟨n₀,h₀⟩ ?_
 intro a w hI
 refine wpIn_mono (round _ a w (leastOf_spec hI).1) ?_
 intro e a' w' hq
 cases e with
 | normal =>
  obtain ⟨n',aQ,OZ⟩:=hq
  exact show (∃n,I n a' w')/\leastOf (λn=>I n a' w') < leastOf (λn=>I n a w) from ⟨⟨n',OZ⟩,Nat.lt_of_le_of_lt ((leastOf_spec ⟨n',OZ⟩).2 n' OZ) aQ⟩
 | exit id=>exact hq
 | goto l=>exact hq
 | ret=>exact hq
 | panic ch=>exact hq
 | outgrown=>exact hq
variable {b:Frame} {k:List Item} {cs:List Frame}
theorem AV {c:Code}:step P (lone (b.atR a (.code (.scope c) :: k)) cs w)=.next (lone (b.atR a (.code c :: .inScope c :: k)) cs w) :=
 step_lone_go (by simp [stepG,stepG.exec,Frame.atR])
theorem aaE {c:Code}:step P (lone (b.atR a (.inScope c :: k)) cs w)=.next (lone (b.atR a k) cs w) :=
 step_lone_go (by simp [stepG,stepG.exec,Frame.atR])
theorem aaw {c:Code} (h:c.wpIn F n P (Exit.noGoto Q) a w):(Code.scope c).wpIn F n P Q a w:=by
 intro b k cs hro hb hr
 have h0:(lone (b.atR a (.code (.scope c) :: k)) cs w).fenced P F:=fenced_calm hb hr rfl
 obtain ⟨e,a₁,w₁,hq,BU⟩:=h b (.inScope c :: k) cs hro hb hr
 cases e with
 | normal=>exact ⟨.normal,a₁,w₁,hq,.head h0 AV (StepsIn.trans BU (.one (fenced_calm hb hr rfl) aaE))⟩
 | exit id =>
  have hx:exitTo id (.inScope c :: k)=exitTo id k:=by simp [exitTo]
  exact ⟨.exit id,a₁,w₁,hq,λk' hk=>.head h0 AV (BU.1 k' (by rw [hx];exact hk)),
   λqc hk=>let ⟨k₁,h1,h2⟩:=BU.2 qc (by rw [hx];exact hk);⟨k₁,h1,.head h0 AV h2⟩⟩
 | goto l=>exact hq.elim
 | ret=>exact ⟨_,a₁,w₁,hq,.of_steps (.one h0 AV) BU⟩
 | panic ch=>exact ⟨_,a₁,w₁,hq,.of_steps (.one h0 AV) BU⟩
 | outgrown=>exact ⟨_,a₁,w₁,hq,.of_steps (.one h0 AV) BU⟩
end
def xH:List Nat->World->World
 | [],w=>w
 | D :: r,w=>xH r (w.putObj D (.deferred none))
theorem GK:∀{ms:List Nat} {w:World} {b:Nat},b∉ms->(xH ms w).heap[b]?=w.heap[b]?
 | [],w,b,_=>rfl
 | D :: r,w,b,h=>by
  simp only [cj,not_or] at h
  simp only [xH]
  rw [GK h.2,World.putObj_heap_other h.1]
theorem GP:∀(ms:List Nat) (w:World),(xH ms w).os=w.os/\(xH ms w).tape=w.tape/\(xH ms w).output=w.output
 | [],w=>⟨rfl,rfl,rfl⟩
 | D :: r,w=>GP r (w.putObj D (.deferred none))
theorem QZ {F:Fence} {n:Nat} {P:Program} {fn:Func} {tmps:Array Value} {R:Ending->World->Prop}:∀{ms:List Nat} {w:World},
  (∀D∈ms,w.heap[D]?=some (.deferred (some [])))->ms.Nodup->LeavesInM F n P fn tmps R [] .returning (xH ms w)->LeavesInM F n P fn tmps R (ms.map BH) .returning w
 | [],w,_,_,h=>h
 | D :: r,w,hm,hn,h=>by
  rw [yO] at hn
  refine ⟨by simp,.inl ⟨D,w.putObj D (.deferred none),rfl,run_takeDeferred (hm D (by simp)),?_⟩⟩
  refine QZ (λD' h'=>?_) hn.2 h
  rw [World.putObj_heap_other (λe=>hn.1 (by rw [<-e];exact h'))]
  exact hm D' (by simp [h'])
section
variable {P:Program} {f f':Fr} {s:St} {η:Nat->Value} {H:aV} {a:Act} {w:World}
theorem Den.shut (E:Ext false f f') (hd:f.dS=[]) (D:Den f' s η H a w):∃ms,a.defers=ms.map BH/\ms.Nodup/\(∀M∈ms,w.heap[M]?=some (.deferred (some []))) /\
  ∀ts,aK η (aP s.b) H s.t ts->Den f s η H ⟨ts.toArray,[]⟩ (xH ms w):=by
 obtain ⟨ms,a1,a2,a3,a4,_⟩:=E.gr
 rw [hd,yR] at a1
 have hF:∀b,f'.F b=none->b∉ms/\f.F b=none:=λb hb=>by
  by_cases h:b∈ms
  ·rw [(a3 b h).2.1] at hb;cases hb
  ·exact ⟨h,by rw [<-a4 b h];exact hb⟩
 have Yj:∀b o,f.F b=some o->b∉ms:=λb o hb h=>by rw [(a3 b h).1] at hb;cases hb
 have hHs:∀b o,H b=some o->b∉ms:=λb o hb h=>by
  rcases D.hf b (by rw [hb];simp) with h1|h1
  ·rw [E.h0] at h1;exact h1 (a3 b h).2.2
  ·rw [(a3 b h).2.1] at h1;cases h1
 refine ⟨ms,by rw [D.d,a1],a2,λM hM=>D.fw M _ (a3 M hM).2.1,λts ht=>?_⟩
 exact {
  t:=ht
  sv:=by rw [<-E.sS,<-E.sV];exact D.sv
  d:=by rw [hd];rfl
  h0:=by rw [<-E.h0];exact D.h0
  hw:=λb o hb=>by rw [GK (hHs b o hb)];exact D.hw b o hb
  fw:=λb o hb=>by rw [GK (Yj b o hb)];exact D.fw b o (by rw [a4 b (Yj b o hb)];exact hb)
  hf:=λb hb=>by
   rcases D.hf b hb with h1|h1
   ·rw [E.h0] at h1;exact .inl h1
   ·exact .inr (hF b h1).2
  sl:=λl x hx=>by
   have hs:=D.sl l x hx
   by_cases dc:x.live=.live
   ·refine hs.kept (gP.refl _ _) (aV.le.refl _) rfl λb hb=>?_
    exact GK (hF b (D.dh l b (by rw [bR hx];exact dc) hb).2).1
   ·cases x with
    | un=>trivial
    | dead=>trivial
    | fix=>exact absurd rfl dc
    | dyn=>exact absurd rfl dc
    | map=>exact absurd rfl dc
    | iter=>exact absurd rfl dc
    | dK=>exact absurd rfl dc
  dj:=D.dj
  dh:=λl b h1 h2=>⟨(D.dh l b h1 h2).1,(hF b (D.dh l b h1 h2).2).2⟩
  os:=by rw [(GP ms w).1,D.os,E.w0]
  tape:=by rw [(GP ms w).2.1,D.tape,E.w0]
  out:=by rw [(GP ms w).2.2,D.out,E.w0] }
theorem Den.mark (D:Den f s η H a w):Den { f with F:=λb=>if b=w.heap.size then some (.deferred (some [])) else f.F b,dS:=w.heap.size :: f.dS } s η H { a with defers:=BH w.heap.size :: a.defers } (w.alloc (.deferred (some []))) /\
  Ext false f { f with F:=λb=>if b=w.heap.size then some (.deferred (some [])) else f.F b,dS:=w.heap.size :: f.dS }:=by
 have D1:=D.grown (World.grownBy_alloc w (.deferred (some [])) none)
 have sy:∀b o,w.heap[b]?=some o->b≠w.heap.size:=λb o h e=>by
  have:=(fa.1 h).1
  omega
 have hF:f.F w.heap.size=none:=by
  cases h:f.F w.heap.size with
  | none=>rfl
  | some o=>exact absurd rfl (sy _ _ (D.fw _ _ h))
 have hH:H w.heap.size=none:=by
  cases h:H w.heap.size with
  | none=>rfl
  | some o=>exact absurd rfl (sy _ _ (D.hw _ _ h))
 have Jw:f.H0 w.heap.size=none:=by
  cases h:f.H0 w.heap.size with
  | none=>rfl
  | some o=>have:=D.h0 _ _ h;rw [hH] at this;cases this
 refine ⟨{ D1 with
  d:=by simp [D.d]
  fw:=λb o h=>by
   simp only at h
   split at h
   ·rename_i e;subst e;cases h;exact World.alloc_heap_new w _
   ·exact D1.fw b o h
  hf:=λb hb=>by
   rcases D1.hf b hb with h|h
   ·exact .inl h
   ·right
    simp only
    rw [if_neg ?_];exact h
    intro e;subst e;exact hb hH
  dh:=λl b h1 h2=>by
   have:=D1.dh l b h1 h2
   refine ⟨this.1,?_⟩
   simp only
   rw [if_neg ?_];exact this.2
   intro e
   have:=D.y9 h1 h2
   omega
  os:=D1.os,tape:=D1.tape,out:=D1.out },rfl,rfl,rfl,rfl,[w.heap.size],rfl,by simp,?_,?_,λh=>by cases h⟩
 ·intro M hM
  simp at hM;subst hM
  exact ⟨hF,by simp,Jw⟩
 ·intro b hb
  simp at hb
  simp [hb]
theorem Den.IM (D:Den f s η H a w) {l bl:Nat} {x y:Slot} (hx:s.b[l]?=some x) (Aa:x.live=.live) (hy:y.live=.live) (hb:bS (η l)=some bl) (o:Obj)
  (iZ:gP η η (aP s.b) (aP (s.b.set l y))->iU η (aP (s.b.set l y)) H (w.putObj bl o) l y):Den f { s with b:=s.b.set l y } η H a (w.putObj bl o):=by
 have hq:aP s.b l=.live:=by rw [bR hx];exact Aa
 exact D.change (w':=w.putObj bl o) (η':=η) (l:=l) (x:=y) none rfl (λ_ _=>rfl) (.inr ⟨hq,rfl,rfl⟩) hy (λ_ h=>by cases h) (some bl) (KH w bl o)
  (λk hk=>by cases hk;exact .inr ⟨hq,hb⟩) (λb gz=>.inr (.inr ⟨hq,gz⟩)) iZ
theorem Den.drop (D:Den f s η H a w) {l bl:Nat} (hq:aP s.b l=.live) (hb:bS (η l)=some bl) (o:Obj):Den f { s with b:=s.b.set l .dead } η H a (w.putObj bl o):=by
 obtain ⟨x,hx,Aa⟩:=qI hq
 have aQ:=(bq.1 hx).1
 have O0:∀k,aP (s.b.set l .dead) k=if k=l then .dead else aP s.b k:=λk=>qG k aQ
 have hT:gP η η (aP s.b) (aP (s.b.set l .dead)):=λk=>by
  cases hk:aP s.b k with
  | un=>trivial
  | dead=>simp only [O0];split;rfl;exact hk
  | live =>
   simp only [O0]
   split
   ·exact .inr rfl
   ·exact .inl ⟨hk,trivial⟩
 have mX:∀k,aP (s.b.set l .dead) k=.live->aP s.b k=.live/\k≠l:=λk hk=>by
  rw [O0] at hk
  split at hk
  ·cases hk
  ·exact ⟨hk,by assumption⟩
 have own:=D.dh l bl hq hb
 have ne:∀b,b≠bl->(w.putObj bl o).heap[b]?=w.heap[b]?:=λb h=>World.putObj_heap_other h
 exact {
  t:=gi hT (aV.le.refl _) _ _ D.t
  sv:=gi hT (aV.le.refl _) _ _ D.sv
  d:=D.d
  h0:=D.h0
  hw:=λb o' h=>by rw [ne b (λe=>by subst e;rw [own.1] at h;cases h)];exact D.hw b o' h
  fw:=λb o' h=>by rw [ne b (λe=>by subst e;rw [own.2] at h;cases h)];exact D.fw b o' h
  hf:=D.hf
  sl:=λk y hy=>by
   by_cases dI:k=l
   ·subst dI
    have hy:(s.b.set k .dead)[k]?=some y:=hy
    rw [nH aQ] at hy
    cases hy;trivial
   ·have hy:(s.b.set l .dead)[k]?=some y:=hy
    rw [fQ (λe=>dI e.symm)] at hy
    have hs:=D.sl k y hy
    by_cases dc:y.live=.live
    ·refine hs.kept hT (aV.le.refl _) rfl λb h=>ne b λe=>?_
     subst e
     exact dI (D.dj k l b (by rw [bR hy];exact dc) hq h hb)
    ·cases y with
     | un=>trivial
     | dead=>trivial
     | fix=>exact absurd rfl dc
     | dyn=>exact absurd rfl dc
     | map=>exact absurd rfl dc
     | iter=>exact absurd rfl dc
     | dK=>exact absurd rfl dc
  dj:=λk k' b h1 h2=>D.dj k k' b (mX k h1).1 (mX k' h2).1
  dh:=λk b h1=>D.dh k b (mX k h1).1
  os:=D.os
  tape:=D.tape
  out:=D.out }
end
abbrev FP:=Option Nat × List Nat
def xI (s:St):List Tmp->List Nat
 | []=>[]
 | t :: r=>match fX s t with
  | some l=>l :: xI s r
  | none=>xI s r
def fp (o:Oper) (s:St):FP :=
 (
  match mF o.op with
   | true=>(match iY o.op with
    | some x=>fX s x
    | none=>none)
   | false=>none,
  match fK o.op with
   | some ys=>xI s ys
   | none=>[])
def BV:Option Nat->List Nat->Bool
 | none,_=>true
 | some l,ys=>ys.all λy=>!Nat.beq l y
def BW (f g:FP):Bool:=BV f.1 g.2&&BV g.1 f.2
def oF (p j:Oper):Bool:=mF p.op&&qT j.op
def known (p j:Oper):Bool:=!oF p j||((iY p.op).isSome&&(fK j.op).isSome)
def HP (ops:List Oper) (p j:Oper):Bool:=HM ops p j&&(known p j&&known j p)
theorem Sy {s:St}:∀{ys:List Tmp} {y:Tmp} {l:Nat},y∈ys->fX s y=some l->l∈xI s ys
 | [],y,l,h,_=>by cases h
 | t :: r,y,l,h,hl=>by
  unfold xI
  rcases cj.1 h with rfl|h
  ·rw [hl];simp
  ·have:=Sy h hl
   split
   ·exact rD _ this
   ·exact this
theorem Rh {s s':St}:∀{ys:List Tmp},(∀y∈ys,fX s y=fX s' y)->xI s ys=xI s' ys
 | [],_=>rfl
 | t :: r,h=>by
  unfold xI
  rw [h t (by simp),Rh λy hy=>h y (by simp [hy])]
theorem aen {l:Nat} {ys:List Nat} (h:BV (some l) ys=true):l∉ys:=λhl=>by
 have:=gK.1 h l hl
 simp at this
theorem Sep.of {p j:Oper} {s:St} (hk:known p j=true) (h:oF p j=true->BV (fp p s).1 (fp j s).2=true):Sep p j s:=λhw=>by
 cases hr:qT j.op with
 | false=>exact .inl rfl
 | true =>
  right
  have hc:oF p j=true:=by simp [oF,hw,hr]
  have h:=h hc
  simp only [known,hc,Bool.not_true,Bool.false_or,cf] at hk
  obtain ⟨x,hx⟩:=qA.1 hk.1
  obtain ⟨ys,hy⟩:=qA.1 hk.2
  refine ⟨x,ys,hx,hy,λl hl y hm Jx=>?_⟩
  simp only [fp,hw,hx,hy,hl] at h
  exact aen h (Sy hm Jx)
theorem Sz {op:Op} {ys:List Tmp} (h:fK op=some ys):∀y∈ys,y∈jx op:=by
 have one:∀{x:Operand} {t:Tmp},x=.tmp t->x∈op.operands->t∈jx op:=λ{x t} hx hm =>
  Bl.2 ⟨x,by simpa using hm,by rw [hx]⟩
 cases op<;>try (cases h;done)
 case load ty x=>cases x<;>simp [fK] at h;subst h;intro y hy;simp at hy;subst hy;exact one rfl (by simp [Op.operands])
 case store ty x z=>cases x<;>simp [fK] at h;subst h;intro y hy;simp at hy;subst hy;exact one rfl (by simp [Op.operands])
 case lookup ty x z ok=>cases x<;>simp [fK] at h;subst h;intro y hy;simp at hy;subst hy;exact one rfl (by simp [Op.operands])
 case entry x=>cases x<;>simp [fK] at h;subst h;intro y hy;simp at hy;subst hy;exact one rfl (by simp [Op.operands])
 case mapUpdate ty x z z'=>cases x<;>simp [fK] at h;subst h;intro y hy;simp at hy;subst hy;exact one rfl (by simp [Op.operands])
 case insert ty x z z'=>cases x<;>simp [fK] at h;subst h;intro y hy;simp at hy;subst hy;exact one rfl (by simp [Op.operands])
 case indexAddr ty x z=>cases x<;>simp [fK] at h;subst h;intro y hy;simp at hy;subst hy;exact one rfl (by simp [Op.operands])
 case slice ty x lo hi mx =>
  cases x<;>cases mx<;>simp [fK] at h
  subst h;intro y hy;simp at hy;subst hy;exact one rfl (by simp [Op.operands])
 case call c =>
  cases hc:c.callee with
  | value g=>simp [fK,hc] at h
  | invoke r m=>simp [fK,hc] at h
  | builtin b =>
   simp only [fK,hc,pL] at h
   subst h
   intro y hy
   obtain ⟨x,hx,e⟩:=Bl.1 hy
   cases x<;>simp at e
   subst e
   exact one rfl (GJ hx)
theorem abu {op:Op} {t:Tmp} (h:iY op=some t):∃ys,fK op=some ys:=by
 cases op<;>try (cases h;done)
 case store ty x z=>cases x<;>simp [iY] at h;exact ⟨_,rfl⟩
 case mapUpdate ty x y z=>cases x<;>simp [iY] at h;exact ⟨_,rfl⟩
 case insert ty x y z=>cases x<;>simp [iY] at h;exact ⟨_,rfl⟩
 case call c =>
  cases hc:c.callee with
  | value g=>simp [iY,hc] at h
  | invoke r m=>simp [iY,hc] at h
  | builtin b=>exact ⟨tmpsOf c.args.toList,by simp [fK,hc]⟩
theorem ac6 {j:Oper} {s s':St} (h:∀t∈jx j.op,fX s t=fX s' t):fp j s=fp j s':=by
 unfold fp
 congr 1
 ·cases mF j.op with
  | false=>rfl
  | true =>
   simp only
   cases hw:iY j.op with
   | none=>rfl
   | some x =>
    obtain ⟨ys,hy⟩:=abu hw
    exact h x (Sz hy x (Te hw hy))
 ·cases hr:fK j.op with
  | none=>rfl
  | some ys=>exact Rh λy hy=>h y (Sz hr y hy)
section
variable {P:Program} {X:Ctx} {f:Fr} {s:St} {η:Nat->Value} {H:aV} {a:Act} {w:World}
theorem Ue {ops:List Oper} {p j:Oper} {l:Nat} {s1:St} (h:Out X ops p l s s1) (ap:vH ops p j):fp j s1=fp j s:=by
 obtain ⟨g,x,u,h1,rfl⟩:=ze.1 h
 refine ac6 λt ht=>?_
 rw [Su (b':=s.b) λi hi e=>ap.d1 i hi (e ▸ ht)]
 rcases h1.guard with ⟨_,rfl⟩|⟨i,y,v,_,rfl,h3,h4⟩
 ·rfl
 ·exact Di h3 h4 s.b t
abbrev It:=(Nat × Oper × Nat) × FP
def xN (X:Ctx) (ops:List Oper):List It->St->(St->Prop)->Prop
 | [],s,k=>k s
 | x :: L,s,k=>∃s',Out X ops x.1.2.1 x.1.2.2 s s'/\fp x.1.2.1 s=x.2/\xN X ops L s' k
def NM (X:Ctx) (ops:List Oper):List (Oper × Nat)->List FP->St->(List FP->St->Prop)->Prop
 | [],acc,s,k=>k acc s
 | (o,l) :: r,acc,s,k=>Ie X ops o l s λs'=>NM X ops r (acc++[fp o s]) s' k
theorem To {ops:List Oper} {K:List FP->St->Prop}:∀(L:List (Nat × Oper × Nat)) (acc:List FP) (s:St),NM X ops (ol L) acc s K->∃fs:List FP,fs.length=L.length/\xN X ops (L.zip fs) s (K (acc++fs))
 | [],acc,s,h=>⟨[],rfl,by rw [yR];exact h⟩
 | x :: L,acc,s,h=>by
  obtain ⟨s',h1,h2⟩:=(Sk X ops x.2.1 x.2.2 s _).1 h
  obtain ⟨fs,h3,h4⟩:=To L (acc++[fp x.2.1 s]) s' h2
  refine ⟨fp x.2.1 s :: fs,by simp [h3],s',h1,rfl,?_⟩
  rw [vx] at h4
  exact h4
theorem Tp {ops:List Oper} {k:St->Prop}:∀(L:List (Nat × Oper × Nat)) (s:St),iO X ops (ol L) s k->∃fs:List FP,fs.length=L.length/\xN X ops (L.zip fs) s k
 | [],s,h=>⟨[],rfl,h⟩
 | x :: L,s,h=>by
  obtain ⟨s',h1,h2⟩:=qz.1 h
  obtain ⟨fs,h3,h4⟩:=Tp L s' h2
  exact ⟨fp x.2.1 s :: fs,by simp [h3],s',h1,rfl,h4⟩
structure NN (ops:List Oper) (x y:It):Prop where
 t:vH ops x.1.2.1 y.1.2.1
 k1:known x.1.2.1 y.1.2.1=true
 k2:known y.1.2.1 x.1.2.1=true
 s1:oF x.1.2.1 y.1.2.1=true->BV x.2.1 y.2.2=true
 s2:oF y.1.2.1 x.1.2.1=true->BV y.2.1 x.2.2=true
theorem Uf (C:X.Ok P) {ops:Array Oper} {k:St->Prop} (x:It) (B:List It):∀(A:List It) {s:St},Good f s->jT ops s ((A++x :: B).map (·.1))->(∀p∈A,NN ops.toList p x) ->
  xN X ops.toList (A++x :: B) s k->xN X ops.toList (x :: A++B) s k
 | [],s,_,_,_,h=>h
 | p :: A,s,G,W,hA,h=>by
  obtain ⟨s1,h1,x9,h2⟩:=h
  have hp:=hA p (by simp)
  have G1:=G.out C (W.get p.1 (by simp)) (λha=>W.un p.1 (by simp) ha) (W.store p.1 (by simp)) h1
  obtain ⟨s2,h4,h4',h5⟩:=Uf C x B A G1 (W.tail h1) (λq hq=>hA q (by simp [hq])) h2
  have hx:fp x.1.2.1 s=x.2:=(Ue h1 hp.t).symm.trans h4'
  have zL:=(eS.1 W.gR).1 x.1 (by simp)
  obtain ⟨Cu,h6,h7⟩:=swap G hp.t (Sep.of hp.k1 (by rw [x9,hx];exact hp.s1)) (Sep.of hp.k2 (by rw [x9,hx];exact hp.s2)) (λha=>W.un p.1 (by simp) ha) (λha=>W.un x.1 (by simp) ha) zL h1 h4
  exact ⟨Cu,h6,hx,s2,h7,(Ue h6 hp.t.symm).trans x9,h5⟩
def HQ (ops:List Oper):List Oper->List Oper->List Nat->Bool
 | [],_,_=>true
 | o :: r,pre,acc =>
  (o.after.toList.all λe=>!Region.binds .any e||Nat.blt e.on pre.length) &&
  (pre.zipIdx.all λp=>(oC acc o).testBit p.2||HP ops p.1 o) &&
  HQ ops r (pre++[o]) (acc++[oC acc o])
def Mb (ops:List Oper):Bool:=HQ ops ops [] []
def zl (m:Nat) (o:Oper) (i:Nat):List Oper->Nat->List (Nat × Nat)
 | [],_=>[]
 | p :: r,j=>match oF p o||oF o p with
  | true=>match m.testBit j with
   | true=>zl m o i r (j+1)
   | false=>(j,i) :: zl m o i r (j+1)
  | false=>zl m o i r (j+1)
def D8:List Oper->List Oper->List Nat->List (Nat × Nat)
 | [],_,_=>[]
 | o :: r,pre,acc=>zl (oC acc o) o pre.length pre 0++D8 r (pre++[o]) (acc++[oC acc o])
def Mv (ops:List Oper):List (Nat × Nat):=D8 ops [] []
def D9 (fs:List FP):List (Nat × Nat)->Bool
 | []=>true
 | q :: r=>(match fs[q.1]?,fs[q.2]? with
  | some f,some g=>BW f g
  | _,_=>false)&&D9 fs r
structure Tq (ops:List Oper):Prop where
 back:∀i o e,ops[i]?=some o->e∈o.after.toList->Region.binds .any e=true->e.on < i
 apart:∀i o j p,ops[i]?=some o->ops[j]?=some p->j < i->lA ops j i\/HP ops p o=true/\((oF p o||oF o p)=true->(j,i)∈Mv ops)
theorem SA {m:Nat} {o:Oper} {i:Nat}:∀{r:List Oper} {n j:Nat} {p:Oper},r[j]?=some p->(oF p o||oF o p)=true->m.testBit (n+j)=false->(n+j,i)∈zl m o i r n
 | [],n,j,p,h,_,_=>by simp at h
 | x :: r,n,0,p,h,hc,hm=>by
  simp at h;subst h
  unfold zl
  rw [hc]
  simp only
  rw [show m.testBit n=false by simpa using hm]
  simp
 | x :: r,n,j+1,p,h,hc,hm=>by
  have:=SA (i:=i) (r:=r) (n:=n+1) (j:=j) (by simpa using h) hc (by rwa [show n+1+j=n+(j+1) by omega])
  rw [show n+1+j=n+(j+1) by omega] at this
  unfold zl
  split
  ·split
   ·exact this
   ·exact rD _ this
  ·exact this
theorem Ri (ops:List Oper):∀(r pre:List Oper) (acc:List Nat),ops=pre++r->acc.length=pre.length ->
  (∀i j,i < pre.length->(acc.getD i 0).testBit j=true->lA ops j i) ->
  HQ ops r pre acc=true->(∀i o e,pre.length<=i->ops[i]?=some o->e∈o.after.toList->Region.binds .any e=true->e.on < i) /\
   ∀i o j p,pre.length<=i->ops[i]?=some o->ops[j]?=some p->j < i->lA ops j i\/HP ops p o=true/\((oF p o||oF o p)=true->(j,i)∈D8 r pre acc)
 | [],pre,acc,he,_,_,_=>by
  have hn:∀i o,pre.length<=i->ops[i]?=some o->False:=λi o hi ho=>by
   rw [he,yR,ox hi] at ho;cases ho
  exact ⟨λi o e hi ho=>(hn i o hi ho).elim,λi o j p hi ho=>(hn i o hi ho).elim⟩
 | o :: r,pre,acc,he,hl,hm,h=>by
  simp only [HQ,cf] at h
  obtain ⟨⟨h1,h2⟩,h3⟩:=h
  have qe:ops[pre.length]?=some o:=by rw [he];simp
  have Eo:∀e,e∈o.after.toList->Region.binds .any e=true->e.on < pre.length:=by
   intro e fc hb
   have:=gK.1 h1 e fc
   rw [hb] at this
   simpa [A7] using this
  have zw:∀j,(oC acc o).testBit j=true->lA ops j pre.length:=by
   intro j hj S hS hi
   rcases L9 acc o.after.toList 0 j hj with h|⟨e,h4,h5,h6⟩
   ·simp at h
   ·have x7:=hi o e qe h4 h5
    rcases h6 with h6|h6
    ·rw [<-h6];exact x7
    ·exact hm e.on j (Eo e h4 h5) h6 S hS λo' e' fS fc gz=>hS e.on o' e' fS x7 fc gz
  have ih:=Ri ops r (pre++[o]) (acc++[oC acc o]) (by rw [he];simp) (by simp [hl]) (λi j hi hj=>by
   simp at hi
   by_cases aQ:i < pre.length
   ·refine hm i j aQ ?_
    rw [List.getD_eq_getElem?_getD,iu (by omega)] at hj
    rw [List.getD_eq_getElem?_getD];exact hj
   ·have:i=pre.length:=by omega
    subst this
    refine zw j ?_
    rw [List.getD_eq_getElem?_getD,pI (by omega)] at hj
    simpa [hl] using hj) h3
  simp only [fJ,oy,A4] at ih
  refine ⟨λi o' e hi fS fc gz=>?_,λi o' j p hi fS hp hj=>?_⟩
  ·by_cases lY:i=pre.length
   ·subst lY
    rw [qe] at fS;simp at fS;subst fS
    exact Eo e fc gz
   ·exact ih.1 i o' e (by omega) fS fc gz
  ·by_cases lY:i=pre.length
   ·subst lY
    rw [qe] at fS;simp at fS;subst fS
    have dL:pre[j]?=some p:=by rw [he,iu hj] at hp;exact hp
    have:=gK.1 h2 (p,j) (by rw [Bd];simpa using dL)
    simp only [oz] at this
    cases hb:(oC acc o).testBit j with
    | true=>exact .inl (zw j hb)
    | false =>
     right
     rw [hb] at this
     refine ⟨by simpa using this,λhc=>?_⟩
     unfold D8
     refine uf _ ?_
     have:=SA (m:=oC acc o) (o:=o) (i:=pre.length) (r:=pre) (n:=0) dL hc (by simpa using hb)
     simpa using this
   ·refine (ih.2 i o' j p (by omega) fS hp hj).imp id λ⟨h4,h5⟩=>⟨h4,λhc=>?_⟩
    unfold D8
    exact xd _ (h5 hc)
theorem aaF {ops:List Oper} (h:Mb ops=true):Tq ops:=by
 obtain ⟨h1,h2⟩:=Ri ops ops [] [] rfl rfl (λi j hi=>by simp at hi) h
 exact ⟨λi o e=>h1 i o e (cK _),λi o j p=>h2 i o j p (cK _)⟩
theorem Rj {fs:List FP}:∀{ps:List (Nat × Nat)},D9 fs ps=true->∀q∈ps,∃f g,fs[q.1]?=some f/\fs[q.2]?=some g/\BW f g=true
 | [],_,q,hq=>by cases hq
 | x :: r,h,q,hq=>by
  simp only [D9,cf] at h
  rcases cj.1 hq with rfl|hq
  ·have h1:=h.1
   split at h1
   ·exact ⟨_,_,by assumption,by assumption,h1⟩
   ·cases h1
  ·exact Rj h.2 q hq
theorem ac7 (C:X.Ok P) {ops:Array Oper} (O:Tq ops.toList) {Q:Exit->Act->World->Prop} {k:St->Prop} (hk:∀s' η' H' a' w',Den f s' η' H' a' w'->k s'->Q .normal a' w') :
  ∀(n:Nat) (L:List It) {bT:Array Bool} {s:St} {η:Nat->Value} {H:aV} {a:Act} {w:World},L.length=n->jT ops s (L.map (·.1))->L.Pairwise (λx y=>x.1.1 < y.1.1) ->
   (∀x∈L,∀y∈L,x.1.1 < y.1.1->lA ops.toList x.1.1 y.1.1\/NN ops.toList x y) ->
   (∀i,i < ops.size->(bT.getD i true=false↔∃x∈L,x.1.1=i))->(∀i,bT.getD i false=true\/bT.getD i true=false\/ops.size<=i) ->
   (∀i o e,ops[i]?=some o->bT.getD i false=true->e∈o.after.toList->Region.binds .any e=true->bT.getD e.on false=true) ->
   Den f s η H a w->xN X ops.toList L s k->wpAny P .any ops Q n bT a w:=by
 intro n
 induction n with
 | zero =>
  intro L bT s η H a w hn W kB NO mA eV vQ D h
  have:L=[]:=gL hn
  subst this
  refine ⟨?_,hk s η H a w D h⟩
  rw [DI]
  intro i hi
  obtain ⟨h0,o,ho,_⟩:=mem_ready.1 hi
  have aQ:=(fa.1 ho).1
  obtain ⟨x,hx,_⟩:=(mA i aQ).1 h0
  cases hx
 | succ n ih =>
  intro L bT s η H a w hn W kB NO mA eV vQ D h
  constructor
  ·intro hr
   cases L with
   | nil=>simp at hn
   | cons x L =>
    have hx:=W.get x.1 (by simp)
    have aQ:=(fa.1 hx).1
    have:x.1.1∈Region.ready .any ops bT:=by
     refine mem_ready.2 ⟨(mA x.1.1 aQ).2 ⟨x,by simp,rfl⟩,x.1.2.1,hx,λe he hb=>?_⟩
     have uD:=O.back x.1.1 x.1.2.1 e (by simpa using hx) (by simpa using he) hb
     rcases eV e.on with h1|h1|h1
     ·exact h1
     ·obtain ⟨y,hy,x8⟩:=(mA e.on (by omega)).1 h1
      rcases cj.1 hy with rfl|hy
      ·omega
      ·have:=(eS.1 kB).1 y hy;omega
     ·omega
    rw [hr] at this
    cases this
  ·intro i hi
   obtain ⟨h0,o,ho,tk⟩:=mem_ready.1 hi
   have aQ:=(fa.1 ho).1
   obtain ⟨x,hx,rfl⟩:=(mA i aQ).1 h0
   obtain ⟨A,B,rfl⟩:=Bm hx
   have gW:=W.get x.1 (by simp)
   rw [ho] at gW
   simp at gW
   have iv:=j9.1 kB
   have hA:∀p∈A,NN ops.toList p x:=by
    intro p hp
    have Jv:p.1.1 < x.1.1:=iv.2.2 p hp x (by simp)
    have sA:=W.get p.1 (Dt (by simp [hp]))
    rcases NO p (by simp [hp]) x (by simp) Jv with hF|hi
    ·have:=hF (λr=>bT.getD r false=true) (λr o' e hr hS he hb=>vQ r o' e (by simpa using hr) hS he hb)
      (λo' e fS he hb=>by
       have:o'=o:=by
        have h1:ops[x.1.1]?=some o':=by simpa using fS
        rw [ho] at h1;simpa using h1.symm
       subst this
       exact tk e (by simpa using he) hb)
     have jr:=(mA p.1.1 (fa.1 sA).1).2 ⟨p,by simp [hp],rfl⟩
     have zM:p.1.1 < bT.size:=by
      rcases oA p.1.1 bT.size with h|h
      ·exact h
      ·simp [yW h] at this
     simp [zM] at this jr
     rw [this] at jr;cases jr
    ·exact hi
   have h2:=Uf C x B A ⟨η,H,a,w,D⟩ W hA h
   obtain ⟨s1,h3,_,h4⟩:=h2
   have ky:(A++x :: B).Perm (x :: (A++B)):=Dv
   have fL:∀y,y∈(x :: (A++B)).map (·.1)->y∈(A++x :: B).map (·.1):=λy hy=>((ky.map (·.1)).mem_iff).2 hy
   have W':jT ops s ((x :: (A++B)).map (·.1)):={
    get:=λy hy=>W.get y (fL y hy)
    store:=λy hy=>W.store y (fL y hy)
    un:=λy hy=>W.un y (fL y hy)
    gR:=((ky.map (·.1)).pairwise_iff (λ{a b} h h1 h2=>(h h2 h1).symm)).1 W.gR }
   refine DC C D (by rw [ho,gW]) (λha=>W.un x.1 (by simp) ha) (W.store x.1 (by simp)) h3 λη' H' a' w' D'=>?_
   have EJ:x.1.1 < bT.size:=by
    rcases oA x.1.1 bT.size with h|h
    ·exact h
    ·simp [yW h] at h0
   have pW:∀j (d:Bool),(bT.setIfInBounds x.1.1 true).getD j d=if x.1.1=j then true else bT.getD j d:=by
    intro j d
    by_cases hj:x.1.1=j
    ·subst hj;simp [EJ]
    ·rw [getD_set_ne d hj,if_neg hj]
   have sub:∀y,y∈A++B->y∈A++x :: B:=λy hy=>ky.mem_iff.2 (rD _ hy)
   refine ih (A++B) (by simp at hn ⊢;omega) (W'.tail h3) ?_ (λy hy z hz=>NO y (sub y hy) z (sub z hz)) ?_ ?_ ?_ D' h4
   ·exact j9.2 ⟨iv.1,(eS.1 iv.2.1).2,λp hp q hq=>iv.2.2 p hp q (by simp [hq])⟩
   ·intro j hj
    rw [pW]
    by_cases iy:x.1.1=j
    ·subst iy
     simp only [if_true]
     refine ⟨λh=>(by cases h),λ⟨y,hy,Yi⟩=>?_⟩
     exfalso
     rcases eA.1 hy with hy|hy
     ·have:=iv.2.2 y hy x (by simp);omega
     ·have:=(eS.1 iv.2.1).1 y hy;omega
    ·rw [if_neg iy,mA j hj]
     constructor
     ·rintro ⟨y,hy,rfl⟩
      rcases eA.1 hy with hy|hy
      ·exact ⟨y,by simp [hy],rfl⟩
      ·rcases cj.1 hy with rfl|hy
       ·exact absurd rfl iy
       ·exact ⟨y,by simp [hy],rfl⟩
     ·rintro ⟨y,hy,rfl⟩
      exact ⟨y,sub y hy,rfl⟩
   ·intro j
    rw [pW,pW]
    by_cases iy:x.1.1=j
    ·simp [iy]
    ·rw [if_neg iy,if_neg iy];exact eV j
   ·intro j o' e hj hl he hb
    rw [pW] at hl ⊢
    split at hl
    ·rename_i iy
     subst iy
     rw [ho] at hj;simp at hj;subst hj
     split
     ·rfl
     ·exact tk e (by simpa using he) hb
    ·split
     ·rfl
     ·exact vQ j o' e hj hl he hb
def regionF (X:Ctx) (ops:List Oper) (s:St) (k:St->Prop):Prop :=
 match Mv ops with
 | []=>ael X ops s k
 | q :: ps=>NM X ops (ef ops s.b.length) [] { s with b:=s.b++iI (nT ops) } λfs s'=>match D9 fs (q :: ps) with
  | true=>k s'
  | false=>False
theorem aaG (C:X.Ok P) {r:Bool} {F:Fence} (R:RF r F) {id:Nat} {ops:Array Oper} (hs:rH ops.toList=true) (hd:Mb ops.toList=true) {Q:Exit->Act->World->Prop} {k:St->Prop}
  (hk:∀s' η' H' a' w',Den f s' η' H' a' w'->k s'->Q .normal a' w') (D:Den f s η H a w) (h:regionF X ops.toList s k):(Code.region id ops true).wpIn F 0 P Q a w:=by
 refine wpIn_mono (Q:=sB (Q .normal)) ?_ (λe a' w' h=>by cases e<;>first|exact h|exact h.elim)
 have hk:∀s' η' H' a' w',Den f s' η' H' a' w'->k s'->sB (Q .normal) .normal a' w':=hk
 have D1:=D.ext (nT ops.toList)
 have W:=KU hs s
 have O:=aaF hd
 obtain ⟨fs,Ai,gm,hps⟩:∃fs:List FP,fs.length=(items ops.toList s.b.length).length/\xN X ops.toList ((items ops.toList s.b.length).zip fs) { s with b:=s.b++iI (nT ops.toList) } (λs'=>k s') /\
   (∀q∈Mv ops.toList,∃f g,fs[q.1]?=some f/\fs[q.2]?=some g/\BW f g=true):=by
  unfold regionF at h
  split at h
  ·rename_i hp
   have h1:iO X ops.toList (ol (items ops.toList s.b.length)) { s with b:=s.b++iI (nT ops.toList) } k:=by rw [vD];exact h
   obtain ⟨fs,h2,h3⟩:=Tp _ _ h1
   exact ⟨fs,h2,h3,λq hq=>by rw [hp] at hq;cases hq⟩
  ·rename_i q ps hp
   rw [<-vD] at h
   obtain ⟨fs,h2,h3⟩:=To _ _ _ h
   simp only [ui] at h3
   have hb:D9 fs (q :: ps)=true:=by
    have fin:∀(L:List It) (s:St) (K:St->Prop),xN X ops.toList L s K->∃s',K s':=by
     intro L
     induction L with
     | nil=>intro s K h;exact ⟨s,h⟩
     | cons x L ih=>intro s K h;obtain ⟨s',_,_,h⟩:=h;exact ih s' K h
    obtain ⟨s',h4⟩:=fin _ _ _ h3
    split at h4
    ·assumption
    ·exact h4.elim
   rw [hb] at h3
   exact ⟨fs,h2,h3,by rw [hp];exact Rj hb⟩
 have zN:∀x∈(items ops.toList s.b.length).zip fs,fs[x.1.1]?=some x.2/\x.1∈items ops.toList s.b.length:=by
  intro x hx
  obtain ⟨i,hi⟩:=xc.1 hx
  rw [List.getElem?_zip_eq_some] at hi
  have h1:((items ops.toList s.b.length).map (·.1))[i]?=some x.1.1:=by rw [k8,hi.1];rfl
  rw [ry] at h1
  have h2:=bq.1 h1
  have h3:i=x.1.1:=by simpa using h2.2
  exact ⟨by rw [<-h3];exact hi.2,cL hi.1⟩
 refine wpIn_region_draw λt=>HN R hs D7 _ _ _ ?_
 simp only [Region.schedule,show P.follows .mixedOrders=true from C.mixed,Bool.true_or,if_true]
 refine wpAny_sound ops.size t _ a _ ?_
 have D2:Den f { s with b:=s.b++iI (nT ops.toList) } η H a { w with drawn:=w.drawn+1 }:=D1.grown (GC w none)
 have agH:(items ops.toList s.b.length).length=ops.size:=by
  have:=congrArg List.length (ry ops.toList s.b.length)
  simpa using this
 have hlen:((items ops.toList s.b.length).zip fs).length=ops.size:=by simp [Ai,agH]
 have EF:((items ops.toList s.b.length).zip fs).map (·.1)=items ops.toList s.b.length:=by
  rw [List.map_fst_zip];omega
 have kB:((items ops.toList s.b.length).zip fs).Pairwise λx y=>x.1.1 < y.1.1:=by
  have h2:((((items ops.toList s.b.length).zip fs).map (·.1)).map (·.1)).Pairwise (· < ·):=by rw [EF,ry];exact Bi
  rw [pM,pM] at h2
  exact h2
 refine ac7 C O hk ops.size _ hlen (by rw [EF];exact W) kB ?_ ?_ ?_ ?_ D2 gm
 ·intro x hx y hy wy
  obtain ⟨h1,h2⟩:=zN x hx
  obtain ⟨h3,h4⟩:=zN y hy
  have h5:=W.get x.1 h2
  have h6:=W.get y.1 h4
  rcases O.apart y.1.1 y.1.2.1 x.1.1 x.1.2.1 (by simpa using h6) (by simpa using h5) wy with hF|⟨hi,hp⟩
  ·exact .inl hF
  ·right
   simp only [HP,cf] at hi
   have both:(oF x.1.2.1 y.1.2.1||oF y.1.2.1 x.1.2.1)=true->BW x.2 y.2=true:=λhc=>by
    obtain ⟨f,g,e1,e2,e3⟩:=hps _ (hp hc)
    rw [h1] at e1;rw [h3] at e2
    simp at e1 e2
    rw [e1,e2];exact e3
   refine ⟨Rg hi.1,hi.2.1,hi.2.2,λhc=>?_,λhc=>?_⟩
   ·have:=both (by rw [hc];rfl)
    simp only [BW,cf] at this
    exact this.1
   ·have:=both (by rw [hc];simp)
    simp only [BW,cf] at this
    exact this.2
 ·intro i hi
  have:(Array.replicate ops.size false).getD i true=false:=by simp [hi]
  simp only [this,true_iff]
  have hm:i∈(((items ops.toList s.b.length).zip fs).map (·.1)).map (·.1):=by rw [EF,ry];simpa using hi
  obtain ⟨z,hz,rfl⟩:=jO.1 hm
  obtain ⟨x,hx,rfl⟩:=jO.1 hz
  exact ⟨x,hx,rfl⟩
 ·intro i
  by_cases hi:i < ops.size
  ·right;left;simp [hi]
  ·right;right;omega
 ·intro i o e ho hl
  exfalso
  by_cases hi:i < ops.size
  ·simp [hi] at hl
  ·simp [hi] at hl
end
end Go.Vc
