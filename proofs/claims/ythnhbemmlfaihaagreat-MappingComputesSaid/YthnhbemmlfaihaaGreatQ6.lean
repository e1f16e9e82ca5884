import Derived.Test.YthnhbemmlfaihaaGreatQ5
import Derived.RangeFuncRecord
import Derived.OrdersIn
import Derived.LoopNIn
import Derived.Deep.LoopGhost
set_option linter.unusedVariables false
set_option linter.unusedSimpArgs false
set_option maxRecDepth 10000
set_option maxHeartbeats 64000000
namespace Go.Vc
open Go
def km (X:Ctx) (ops:List Oper):List (Oper × Nat)->St->(St->Prop)->Prop
 | [],s,k=>k s
 | (o,l) :: r,s,k=>N8 X ops o l s λs'=>km X ops r s' k
def e9:List Oper->Nat->List (Oper × Nat)
 | [],_=>[]
 | o :: r,n=>(o,n) :: e9 r (match gu o.op with|true=>n+1|false=>n)
def qn:List Oper->Nat
 | []=>0
 | o :: r=>(match gu o.op with|true=>1|false=>0)+qn r
def jY:Nat->List Slot
 | 0=>[]
 | n+1=>.un :: jY n
def amz (X:Ctx) (ops:List Oper) (s:St) (k:St->Prop):Prop :=
 km X ops (e9 ops s.b.length) { s with b:=s.b++jY (qn ops) } k
def wy:Op->Bool
 | .defer _=>true
 | _=>false
def u9 (ops:List Oper):Bool:=ops.all λo=>match sL o.op with|true=>o.dst.isNone|false=>!wy o.op
def RF (r:Bool) (F:Fence):Prop:=match r with
 | false=>F=Fence.wide
 | true=>∃l,F=Fence.wide.inRound l
section apK
variable {P:Program} {r:Bool} {F:Fence}
theorem RF.fn (R:RF r F) (g:FuncId):F.fn g:=by
 cases r
 ·have R:F=_:=R;subst R;trivial
 ·obtain ⟨l,rfl⟩:=R;trivial
theorem RF.depth (R:RF r F):F.depth=none:=by
 cases r
 ·have R:F=_:=R;subst R;rfl
 ·obtain ⟨l,rfl⟩:=R;rfl
theorem RF.calls (R:RF r F) {n:Nat} {g:FuncId} {args:Array Value} {w:World} {K:Ending->World->Prop} (h:Calls P g args w K):CallsIn F n P g args w K:=by
 have h':CallsIn Fence.wide n P g args w K:=callsIn_wide.2 h
 cases r
 ·have R:F=_:=R;subst R;exact h'
 ·obtain ⟨l,rfl⟩:=R;exact h'
theorem RF.rows (R:RF r F) {n:Nat} {row:String} {args:Array Value} {w:World} {K:Value->World->Prop} (h:Rows P row args w K):RowsIn F n P row args w K:=by
 have h':RowsIn Fence.wide n P row args w K:=λc cs _=>by
  obtain ⟨v,w',h1,h2⟩:=h c cs
  exact ⟨v,w',h1,stepsIn_wide.2 h2⟩
 cases r
 ·have R:F=_:=R;subst R;exact h'
 ·obtain ⟨l,rfl⟩:=R;exact h'
theorem RF.nd (R:RF r F) {n:Nat}:F.depth.isSome=true->1<=n:=λh=>by rw [R.depth] at h;cases h
theorem zg (R:RF r F) {o:Oper} (gC:wy o.op=false) {a:Act} {w:World} {K:Act->World->Prop} {Q:Exit->Act->World->Prop} (h:o.wp P a w K Q):o.wpIn F 0 P a w K Q:=by
 refine ⟨λg _=>R.fn g,?_⟩
 rw [Oper.semAt_eq _ _ _ (λc e=>by rw [e] at gC;cases gC)]
 unfold Oper.wp at h
 generalize (execOp a.eval o).run P w=z at *
 cases z with
 | ok x w' =>
  cases x<;>simp only [Oper.upon,Oper.uponIn] at h ⊢<;>first|exact h|exact ⟨R.nd,R.calls h⟩|exact ⟨R.nd,R.rows h⟩|exact h.elim
 | halt x w'=>cases x<;>simp only [Oper.upon,Oper.uponIn] at h ⊢<;>exact h
theorem NA (R:RF r F) {ops:Array Oper} {Q:Exit->Act->World->Prop} (hs:u9 ops.toList=true) (hQ:¬LetsOut Q):∀(l:List Nat) (a:Act) (w:World),wpOps P ops Q l a w->wpOpsIn F 0 P ops Q l a w
 | [],a,w,h=>h
 | i :: l,a,w,h=>by
  rw [wpOps_cons] at h
  rw [wpOpsIn_cons]
  unfold wpOp at h
  unfold wpOpIn
  cases ho:ops[i]? with
  | none=>rw [ho] at h;exact NA R hs hQ l a w h
  | some o =>
   rw [ho] at h
   simp only at h ⊢
   by_cases hw:Region.wanted o (yielded ops a.tmps)=true
   ·rw [if_pos hw] at h ⊢
    rcases h with h|h
    ·refine Oper.wpIn_mono (λa w h=>NA R hs hQ l a w h) (zg R ?_ h)
     have:=jo.1 hs o (by simpa using xB ho)
     cases cH:sL o.op
     ·rw [cH] at this;simpa using this
     ·cases fC:o.op<;>rw [fC] at cH<;>first|rfl|cases cH
    ·exact absurd h.2 hQ
   ·rw [if_neg hw] at h ⊢
    exact ⟨λg _=>R.fn g,NA R hs hQ l _ w h⟩
end apK
theorem NB:∀n,jY n=List.replicate n .un
 | 0=>rfl
 | n+1=>by rw [jY,NB n];rfl
section
variable {P:Program} {X:Ctx} {f:Fr} {s:St} {η:Nat->Value} {H:bB} {a:Act} {w:World}
theorem amA (b:List Slot) (n l:Nat):aW (b++jY n) l=aW b l:=by
 unfold aW
 by_cases h:l < b.length
 ·rw [j7 h]
 ·rw [qb (by omega),NB,sI,nF (by omega)]
  split<;>rename_i e
  ·split at e
   ·simp at e;subst e;rfl
   ·cases e
  ·rfl
theorem Den.ext (D:Den f s η H a w) (n:Nat):Den f { s with b:=s.b++jY n } η H a w:=by
 have hq:aW (s.b++jY n)=aW s.b:=funext λl=>amA s.b n l
 exact { D with
  t:=by rw [hq];exact D.t
  sv:=by rw [hq];exact D.sv
  sl:=λl x hx=>by
   rw [hq]
   by_cases h:l < s.b.length
   ·rw [j7 h] at hx;exact D.sl l x hx
   ·rw [qb (by omega),NB,sI] at hx
    split at hx
    ·simp at hx;subst hx;trivial
    ·cases hx
  dj:=by rw [hq];exact D.dj
  dh:=by rw [hq];exact D.dh }
structure lP (ops:Array Oper) (s:St) (L:List (Nat × Oper × Nat)):Prop where
 get:∀x∈L,ops[x.1]?=some x.2.1
 store:∀x∈L,Ga x.2.1
 un:∀x∈L,gu x.2.1.op=true->s.b[x.2.2]?=some .un
 ji:L.Pairwise λx y=>gu x.2.1.op=true->gu y.2.1.op=true->x.2.2≠y.2.2
def ol (L:List (Nat × Oper × Nat)):List (Oper × Nat):=L.map (·.2)
theorem lP.tail {ops:Array Oper} {x:Nat × Oper × Nat} {L:List (Nat × Oper × Nat)} (W:lP ops s (x :: L)) {s1:St} (h:Out X ops.toList x.2.1 x.2.2 s s1):lP ops s1 L where
 get y hy:=W.get y (by simp [hy])
 store y hy:=W.store y (by simp [hy])
 un y hy ha:=anL h (W.un y (by simp [hy]) ha) λhx=>(fH.1 W.ji).1 y hy hx ha
 ji:=(fH.1 W.ji).2
theorem tQ {ops:List Oper} {x:Oper × Nat} {L:List (Oper × Nat)} {k:St->Prop}:km X ops (x :: L) s k↔∃s',Out X ops x.1 x.2 s s'/\km X ops L s' k:=by
 obtain ⟨o,l⟩:=x
 exact Y1 X ops o l s _
theorem Jz (C:X.Ok P) {ops:Array Oper} {k:St->Prop} (x:Nat × Oper × Nat) (B:List (Nat × Oper × Nat)):∀(A:List (Nat × Oper × Nat)) {s:St} {Ks:Tmp->List Nat},Good f s->qv ops.toList Ks s->(∀y∈A++x :: B,vk ops.toList Ks y.2.1 y.2.2)->lP ops s (A++x :: B) ->
  (∀p∈A,wE ops.toList p.2.1 x.2.1)->km X ops.toList (ol (A++x :: B)) s k->km X ops.toList (ol (x :: A++B)) s k
 | [],s,_,_,_,_,_,_,h=>h
 | p :: A,s,Ks,G,FA,hK,W,hA,h=>by
  have mp:p.2.1∈ops.toList:=by have:=W.get p (by simp);exact Array.mem_toList_iff.2 (xB this)
  have mx:x.2.1∈ops.toList:=by have:=W.get x (by simp);exact Array.mem_toList_iff.2 (xB this)
  obtain ⟨s1,h1,h2⟩:=tQ.1 h
  have G1:=G.out C (W.get p (by simp)) (λha=>W.un p (by simp) ha) (W.store p (by simp)) h1
  have h3:=Jz C x B A G1 (FA.out mp (hK p (by simp)) (λf S h=>(C.sp f S h).lr) h1) (λy hy=>hK y (by simp only [CV,cV];exact .inr hy)) (W.tail h1) (λq hq=>hA q (by simp [hq])) h2
  obtain ⟨s2,h4,h5⟩:=tQ.1 h3
  have DW:=(fH.1 W.ji).1 x (by simp)
  obtain ⟨Hr,h6,h7⟩:=swap G (hA p (by simp)).t ((hA p (by simp)).sep FA mp mx) ((hA p (by simp)).symm.sep FA mx mp) (λha=>W.un p (by simp) ha) (λha=>W.un x (by simp) ha) DW h1 h4
  exact tQ.2 ⟨Hr,h6,tQ.2 ⟨s2,h7,h5⟩⟩
def qR (acc:List Nat) (o:Oper):Nat :=
 o.after.toList.foldl (λm e=>if Region.binds .any e then m ||| (2^e.on) ||| acc.getD e.on 0 else m) 0
def N9 (ops:List Oper):List Oper->List Oper->List Nat->Bool
 | [],_,_=>true
 | o :: r,pre,acc =>
  (o.after.toList.all λe=>!Region.binds .any e||Nat.blt e.on pre.length) &&
  (pre.zipIdx.all λp=>(qR acc o).testBit p.2||indep ops p.1 o) &&
  N9 ops r (pre++[o]) (acc++[qR acc o])
def Jn (ops:List Oper):Bool:=N9 ops ops [] []
def nQ (ops:List Oper) (j i:Nat):Prop:=∀S:Nat->Prop,(∀r o e,ops[r]?=some o->S r->e∈o.after.toList->Region.binds .any e=true->S e.on) ->
 (∀o e,ops[i]?=some o->e∈o.after.toList->Region.binds .any e=true->S e.on)->S j
theorem Sj (acc:List Nat) (es:List Edge) (m0 j:Nat) (h:(es.foldl (λm e=>if Region.binds .any e then m ||| (2^e.on) ||| acc.getD e.on 0 else m) m0).testBit j=true) :
  m0.testBit j=true\/∃e∈es,Region.binds .any e=true/\(e.on=j\/(acc.getD e.on 0).testBit j=true):=by
 induction es generalizing m0 with
 | nil=>exact .inl h
 | cons e es ih =>
  simp only [kW] at h
  rcases ih _ h with h|⟨e',h1,h2⟩
  ·split at h
   ·rename_i hb
    simp only [Nat.testBit_or,px] at h
    rcases h with (h|h)|h
    ·exact .inl h
    ·exact .inr ⟨e,by simp,hb,.inl (by rw [Nat.testBit_two_pow] at h;simpa using h)⟩
    ·exact .inr ⟨e,by simp,hb,.inr h⟩
   ·exact .inl h
  ·exact .inr ⟨e',by simp [h1],h2⟩
structure Ordered (ops:List Oper):Prop where
 back:∀i o e,ops[i]?=some o->e∈o.after.toList->Region.binds .any e=true->e.on < i
 apart:∀i o j p,ops[i]?=some o->ops[j]?=some p->j < i->nQ ops j i\/indep ops p o=true
theorem Yt (ops:List Oper):∀(r pre:List Oper) (acc:List Nat),ops=pre++r->acc.length=pre.length ->
  (∀i j,i < pre.length->(acc.getD i 0).testBit j=true->nQ ops j i) ->
  N9 ops r pre acc=true->(∀i o e,pre.length<=i->ops[i]?=some o->e∈o.after.toList->Region.binds .any e=true->e.on < i) /\
   ∀i o j p,pre.length<=i->ops[i]?=some o->ops[j]?=some p->j < i->nQ ops j i\/indep ops p o=true
 | [],pre,acc,he,_,_,_=>by
  have hn:∀i o,pre.length<=i->ops[i]?=some o->False:=λi o hi ho=>by
   rw [he,Ax,nF hi] at ho;cases ho
  exact ⟨λi o e hi ho=>(hn i o hi ho).elim,λi o j p hi ho=>(hn i o hi ho).elim⟩
 | o :: r,pre,acc,he,hl,hm,h=>by
  simp only [N9,cQ] at h
  obtain ⟨⟨h1,h2⟩,h3⟩:=h
  have nm:ops[pre.length]?=some o:=by rw [he];simp
  have JH:∀e,e∈o.after.toList->Region.binds .any e=true->e.on < pre.length:=by
   intro e gm hb
   have:=jo.1 h1 e gm
   rw [hb] at this
   simpa [FQ] using this
  have DF:∀j,(qR acc o).testBit j=true->nQ ops j pre.length:=by
   intro j hj S hS hi
   rcases Sj acc o.after.toList 0 j hj with h|⟨e,h4,h5,h6⟩
   ·simp at h
   ·have BT:=hi o e nm h4 h5
    rcases h6 with h6|h6
    ·rw [<-h6];exact BT
    ·exact hm e.on j (JH e h4 h5) h6 S hS λo' e' im gm iV=>hS e.on o' e' im BT gm iV
  have ih:=Yt ops r (pre++[o]) (acc++[qR acc o]) (by rw [he];simp) (by simp [hl]) (λi j hi hj=>by
   simp at hi
   by_cases aP:i < pre.length
   ·refine hm i j aP ?_
    rw [List.getD_eq_getElem?_getD,j7 (by omega)] at hj
    rw [List.getD_eq_getElem?_getD];exact hj
   ·have:i=pre.length:=by omega
    subst this
    refine DF j ?_
    rw [List.getD_eq_getElem?_getD,qb (by omega)] at hj
    simpa [hl] using hj) h3
  simp only [List.length_append,qd,FK] at ih
  refine ⟨λi o' e hi im gm iV=>?_,λi o' j p hi im hp hj=>?_⟩
  ·by_cases nt:i=pre.length
   ·subst nt
    rw [nm] at im;simp at im;subst im
    exact JH e gm iV
   ·exact ih.1 i o' e (by omega) im gm iV
  ·by_cases nt:i=pre.length
   ·subst nt
    rw [nm] at im;simp at im;subst im
    have eD:pre[j]?=some p:=by rw [he,j7 hj] at hp;exact hp
    have:=jo.1 h2 (p,j) (by rw [FY];simpa using eD)
    simp only [px] at this
    exact this.imp (DF j) id
   ·exact ih.2 i o' j p (by omega) im hp hj
theorem XT {ops:List Oper} (h:Jn ops=true):Ordered ops:=by
 obtain ⟨h1,h2⟩:=Yt ops ops [] [] rfl rfl (λi j hi=>by simp at hi) h
 exact ⟨λi o e=>h1 i o e (cg _),λi o j p=>h2 i o j p (cg _)⟩
theorem aa8 (C:X.Ok P) {ops:Array Oper} (O:Ordered ops.toList) {Q:Exit->Act->World->Prop} {k:St->Prop} (hk:∀s' η' H' a' w',Den f s' η' H' a' w'->k s'->Q .normal a' w') :
  ∀(n:Nat) (L:List (Nat × Oper × Nat)) {cN:Array Bool} {Ks:Tmp->List Nat} {s:St} {η:Nat->Value} {H:bB} {a:Act} {w:World},L.length=n->lP ops s L->L.Pairwise (λx y=>x.1 < y.1) ->
   (∀i,i < ops.size->(cN.getD i true=false↔∃x∈L,x.1=i))->(∀i,cN.getD i false=true\/cN.getD i true=false\/ops.size<=i) ->
   (∀i o e,ops[i]?=some o->cN.getD i false=true->e∈o.after.toList->Region.binds .any e=true->cN.getD e.on false=true) ->
   qv ops.toList Ks s->(∀y∈L,vk ops.toList Ks y.2.1 y.2.2)->Den f s η H a w->km X ops.toList (ol L) s k->wpAny P .any ops Q n cN a w:=by
 intro n
 induction n with
 | zero =>
  intro L cN Ks s η H a w hn W kE nM eZ zh FA hK D h
  have:L=[]:=iF hn
  subst this
  refine ⟨?_,hk s η H a w D h⟩
  rw [FX]
  intro i hi
  obtain ⟨h0,o,ho,_⟩:=mem_ready.1 hi
  have aP:=(fW.1 ho).1
  obtain ⟨x,hx,_⟩:=(nM i aP).1 h0
  cases hx
 | succ n ih =>
  intro L cN Ks s η H a w hn W kE nM eZ zh FA hK D h
  constructor
  ·intro hr
   cases L with
   | nil=>simp at hn
   | cons x L =>
    have hx:=W.get x (by simp)
    have aP:=(fW.1 hx).1
    have:x.1∈Region.ready .any ops cN:=by
     refine mem_ready.2 ⟨(nM x.1 aP).2 ⟨x,by simp,rfl⟩,x.2.1,hx,λe he hb=>?_⟩
     have xW:=O.back x.1 x.2.1 e (by simpa using hx) (by simpa using he) hb
     rcases eZ e.on with h1|h1|h1
     ·exact h1
     ·obtain ⟨y,hy,BU⟩:=(nM e.on (by omega)).1 h1
      rcases cV.1 hy with rfl|hy
      ·omega
      ·have:=(fH.1 kE).1 y hy;omega
     ·omega
    rw [hr] at this
    cases this
  ·intro i hi
   obtain ⟨h0,o,ho,wF⟩:=mem_ready.1 hi
   have aP:=(fW.1 ho).1
   obtain ⟨x,hx,rfl⟩:=(nM i aP).1 h0
   obtain ⟨A,B,rfl⟩:=FI hx
   have ju:=W.get x (by simp)
   rw [ho] at ju
   simp at ju
   have jH:=j8.1 kE
   have hA:∀p∈A,wE ops.toList p.2.1 x.2.1:=by
    intro p hp
    have PD:p.1 < x.1:=jH.2.2 p hp x (by simp)
    have vF:=W.get p (by simp [hp])
    rcases O.apart x.1 x.2.1 p.1 p.2.1 (by rw [<-ju];simpa using ho) (by simpa using vF) PD with hF|hi
    ·
     have:=hF (λr=>cN.getD r false=true) (λr o' e hr hS he hb=>zh r o' e (by simpa using hr) hS he hb)
      (λo' e im he hb=>by
       have:o'=o:=by
        have h1:ops[x.1]?=some o':=by simpa using im
        rw [ho] at h1;simpa using h1.symm
       subst this
       exact wF e (by simpa using he) hb)
     have kZ:=(nM p.1 (fW.1 vF).1).2 ⟨p,by simp [hp],rfl⟩
     have DX:p.1 < cN.size:=by
      rcases ov p.1 cN.size with h|h
      ·exact h
      ·simp [C5 h] at this
     simp [DX] at this kZ
     rw [this] at kZ;cases kZ
    ·exact Mu hi
   have h2:=Jz C x B A ⟨η,H,a,w,D⟩ FA hK W hA h
   obtain ⟨s1,h3,h4⟩:=tQ.1 h2
   have mB:(A++x :: B).Perm (x :: (A++B)):=IV
   have W':lP ops s (x :: (A++B)):={
    get:=λy hy=>W.get y (mB.mem_iff.2 hy)
    store:=λy hy=>W.store y (mB.mem_iff.2 hy)
    un:=λy hy=>W.un y (mB.mem_iff.2 hy)
    ji:=(mB.pairwise_iff (λ{a b} h h1 h2=>(h h2 h1).symm)).1 W.ji }
   refine I5 C D (by rw [ho,ju]) (λha=>W.un x (by simp) ha) (W.store x (by simp)) h3 λη' H' a' w' D'=>?_
   have J1:x.1 < cN.size:=by
    rcases ov x.1 cN.size with h|h
    ·exact h
    ·simp [C5 h] at h0
   have sW:∀j (d:Bool),(cN.setIfInBounds x.1 true).getD j d=if x.1=j then true else cN.getD j d:=by
    intro j d
    by_cases hj:x.1=j
    ·subst hj;simp [J1]
    ·rw [getD_set_ne d hj,if_neg hj]
   refine ih (A++B) (by simp at hn ⊢;omega) (W'.tail h3) ?_ ?_ ?_ ?_ (FA.out (Array.mem_toList_iff.2 (xB (W.get x (by simp)))) (hK x (by simp)) (λf S h=>(C.sp f S h).lr) h3) (λy hy=>hK y (mB.mem_iff.2 (by simp only [cV];exact .inr hy))) D' h4
   ·have:=jH
    exact j8.2 ⟨jH.1,(fH.1 jH.2.1).2,λp hp q hq=>jH.2.2 p hp q (by simp [hq])⟩
   ·intro j hj
    rw [sW]
    by_cases jL:x.1=j
    ·subst jL
     simp only [if_true]
     refine ⟨λh=>(by cases h),λ⟨y,hy,BV⟩=>?_⟩
     exfalso
     rcases dR.1 hy with hy|hy
     ·have:=jH.2.2 y hy x (by simp);omega
     ·have:=(fH.1 jH.2.1).1 y hy;omega
    ·rw [if_neg jL,nM j hj]
     constructor
     ·rintro ⟨y,hy,rfl⟩
      rcases dR.1 hy with hy|hy
      ·exact ⟨y,by simp [hy],rfl⟩
      ·rcases cV.1 hy with rfl|hy
       ·exact absurd rfl jL
       ·exact ⟨y,by simp [hy],rfl⟩
     ·rintro ⟨y,hy,rfl⟩
      rcases dR.1 hy with hy|hy
      ·exact ⟨y,by simp [hy],rfl⟩
      ·exact ⟨y,by simp [hy],rfl⟩
   ·intro j
    rw [sW,sW]
    by_cases jL:x.1=j
    ·simp [jL]
    ·rw [if_neg jL,if_neg jL];exact eZ j
   ·intro j o' e hj hl he hb
    rw [sW] at hl ⊢
    split at hl
    ·rename_i jL
     subst jL
     rw [ho] at hj;simp at hj;subst hj
     split
     ·rfl
     ·exact wF e (by simpa using he) hb
    ·split
     ·rfl
     ·exact zh j o' e hj hl he hb
def Oa (ops:List Oper) (K:Tmp->List Nat) (x:Tmp) (A:List Tmp):List Tmp->Bool
 | []=>true
 | y :: r=>(match lV ops 8 y with
  | none=>true
  | some B=>match wN A B with
   | true=>wN (K x) (K y)
   | false=>true)&&Oa ops K x A r
def Ob (ops:List Oper) (K:Tmp->List Nat) (x:Tmp) (A:List Tmp):List Oper->Bool
 | []=>true
 | j :: r=>(match gZ j.op with
  | some ys=>(match Dt ops A ys with
   | true=>Oa ops K x A ys
   | false=>true)
  | none=>true)&&Ob ops K x A r
def Bs (ops:List Oper) (K:Tmp->List Nat):List Oper->Bool
 | []=>true
 | p :: r=>(match o7 p.op with
  | true=>(match kD p.op with
   | some x=>(match lV ops 8 x with
    | none=>true
    | some A=>Ob ops K x A ops)
   | none=>true)
  | false=>true)&&Bs ops K r
theorem Za {ops:List Oper} {A:List Tmp}:∀{ys:List Tmp},(∀y∈ys,∃B,lV ops 8 y=some B/\wN A B=true)->Dt ops A ys=true
 | [],_=>rfl
 | y :: r,h=>by
  obtain ⟨B,h1,h2⟩:=h y (by simp)
  simp only [Dt,h1,h2,IY]
  exact Za λz hz=>h z (by simp [hz])
theorem Z7 {ops:List Oper} {K:Tmp->List Nat} {x:Tmp} {A:List Tmp}:∀{ys:List Tmp},Oa ops K x A ys=true->(∀y∈ys,∃B,lV ops 8 y=some B/\wN A B=true)->∀y∈ys,∀l∈K x,l∉K y
 | [],_,_,y,hy=>by cases hy
 | z :: r,h,hd,y,hy=>by
  simp only [Oa,cQ] at h
  rcases cV.1 hy with rfl|hy
  ·obtain ⟨B,h1,h2⟩:=hd y (by simp)
   have h3:=h.1
   simp only [h1,h2] at h3
   exact aa4 h3
  ·exact Z7 h.2 (λz hz=>hd z (by simp [hz])) y hy
theorem Z8 {ops:List Oper} {K:Tmp->List Nat} {x:Tmp} {A:List Tmp}:∀{r:List Oper},Ob ops K x A r=true->∀j∈r,∀ys,gZ j.op=some ys->(∀y∈ys,∃B,lV ops 8 y=some B/\wN A B=true) ->
  ∀y∈ys,∀l∈K x,l∉K y
 | [],_,j,hj,_,_,_=>by cases hj
 | k :: r,h,j,hj,ys,hy,hd=>by
  simp only [Ob,cQ] at h
  rcases cV.1 hj with rfl|hj
  ·have h1:=h.1
   rw [hy] at h1
   simp only [Za hd] at h1
   exact Z7 h1 hd
  ·exact Z8 h.2 j hj ys hy hd
theorem Jo {ops:List Oper} {K:Tmp->List Nat}:∀{r:List Oper},Bs ops K r=true->∀p∈r,∀j∈ops,∀x ys,Hp ops p j x ys->o7 p.op=true->∀y∈ys,∀l∈K x,l∉K y
 | [],_,p,hp,_,_,_,_,_,_=>by cases hp
 | k :: r,h,p,hp,j,hj,x,ys,F,hw=>by
  simp only [Bs,cQ] at h
  rcases cV.1 hp with rfl|hp
  ·have h1:=h.1
   rw [hw] at h1
   simp only [F.p] at h1
   obtain ⟨A,hA⟩:=F.ax
   rw [hA] at h1
   exact Z8 h1 j hj ys F.j (F.d A hA)
  ·exact Jo h.2 p hp j hj x ys F hw
def adl (ops:List Oper) (s:St):Bool:=Bs ops (rN ops (e9 ops s.b.length) s) ops
def items (ops:List Oper) (n:Nat):List (Nat × Oper × Nat):=(e9 ops n).zipIdx.map λp=>(p.2,p.1.1,p.1.2)
theorem QN:∀(ops:List Oper) (n:Nat),(e9 ops n).length=ops.length
 | [],n=>rfl
 | o :: r,n=>by simp [e9,QN r]
theorem Sk:∀(ops:List Oper) (n i:Nat) (p:Oper × Nat),(e9 ops n)[i]?=some p->ops[i]?=some p.1
 | [],n,i,p,h=>by simp [e9] at h
 | o :: r,n,0,p,h=>by simp [e9] at h;subst h;rfl
 | o :: r,n,i+1,p,h=>by simp only [e9,Rc] at h ⊢;exact Sk r _ i p h
theorem SM:∀(ops:List Oper) (n:Nat),∀p∈e9 ops n,n<=p.2/\(gu p.1.op=true->p.2 < n+qn ops)
 | [],n,p,h=>by simp [e9] at h
 | o :: r,n,p,h=>by
  simp only [e9,cV] at h
  rcases h with rfl|h
  ·refine ⟨fq _,λha=>?_⟩
   simp only at ha
   simp only [qn,ha];omega
  ·have:=SM r _ p h
   simp only [qn]
   cases hq:gu o.op<;>rw [hq] at this<;>simp only at this ⊢<;>exact ⟨by omega,λha=>by have:=this.2 ha;omega⟩
theorem Zb:∀(ops:List Oper) (n:Nat),(e9 ops n).Pairwise λx y=>gu x.1.op=true->gu y.1.op=true->x.2≠y.2
 | [],n=>by simp [e9]
 | o :: r,n=>by
  simp only [e9,fH]
  refine ⟨λy hy hx _=>?_,Zb r _⟩
  rw [hx] at hy
  have:=(SM r _ y hy).1
  simp only at this ⊢
  omega
theorem yW (ops:List Oper) (n:Nat):ol (items ops n)=e9 ops n:=by
 unfold ol items
 rw [FO]
 apply qO
 intro i
 simp only [mq,List.getElem?_zipIdx]
 cases (e9 ops n)[i]?<;>simp
theorem uX (ops:List Oper) (n:Nat):(items ops n).map (·.1)=List.range ops.length:=by
 unfold items
 rw [FO]
 apply qO
 intro i
 simp only [mq,List.getElem?_zipIdx]
 by_cases h:i < ops.length
 ·have h2:i < (e9 ops n).length:=by rw [QN];exact h
  simp [h,h2]
 ·have h2:(e9 ops n).length<=i:=by rw [QN];omega
  simp [h2,show ops.length<=i by omega]
theorem QX {ops:Array Oper} (hs:u9 ops.toList=true) (s:St):lP ops { s with b:=s.b++jY (qn ops.toList) } (items ops.toList s.b.length):=by
 have mem:∀x∈items ops.toList s.b.length,(e9 ops.toList s.b.length)[x.1]?=some x.2:=by
  intro x hx
  unfold items at hx
  obtain ⟨p,hp,rfl⟩:=jS.1 hx
  rw [FY] at hp
  simpa using hp
 constructor
 ·intro x hx
  have:=Sk _ _ _ _ (mem x hx)
  simpa using this
 ·intro x hx he
  have:=Sk _ _ _ _ (mem x hx)
  have h2:=jo.1 hs x.2.1 (cB this)
  rw [he] at h2
  simpa using h2
 ·intro x hx ha
  have hg:=SM ops.toList s.b.length x.2 (cB (mem x hx))
  have h2:=hg.2 ha
  simp only
  rw [qb hg.1,NB,sI,if_pos (by omega)]
 ·unfold items
  rw [rJ]
  have:((e9 ops.toList s.b.length).zipIdx).Pairwise λx y=>gu x.1.1.op=true->gu y.1.1.op=true->x.1.2≠y.1.2:=by
   have h:=Zb ops.toList s.b.length
   rw [<-List.zipIdx_map_fst 0 (e9 ops.toList s.b.length),rJ] at h
   exact h
  exact this
def vG (K:Act->World->Prop):Exit->Act->World->Prop
 | .normal,a,w=>K a w
 | _,_,_=>False
theorem Jp {K:Act->World->Prop}:¬LetsOut (vG K):=λ⟨_,_,h⟩=>h
end
structure Ext (r:Bool) (f f':Fr):Prop where
 h0:f'.H0=f.H0
 w0:f'.w0=f.w0
 sS:f'.sS=f.sS
 sV:f'.sV=f.sV
 gr:∃ms:List Nat,f'.dS=ms++f.dS/\ms.Nodup/\(∀D∈ms,f.F D=none/\f'.F D=some (.deferred (some []))/\f.H0 D=none)/\(∀b,b∉ms->f'.F b=f.F b)/\(r=true->ms=[])
theorem Ext.refl (r:Bool) (f:Fr):Ext r f f:=⟨rfl,rfl,rfl,rfl,[],rfl,Az,λ_ h=>by simp at h,λ_ _=>rfl,λ_=>rfl⟩
theorem Ext.trans {r:Bool} {f g h:Fr} (a:Ext r f g) (b:Ext r g h):Ext r f h:=by
 obtain ⟨ms,a1,a2,a3,a4,a5⟩:=a.gr
 obtain ⟨ns,b1,b2,b3,b4,b5⟩:=b.gr
 have hd:∀D∈ns,D∉ms:=λD h1 h2=>by
  have:=(a3 D h2).2.1
  rw [(b3 D h1).1] at this;cases this
 refine ⟨b.h0.trans a.h0,b.w0.trans a.w0,b.sS.trans a.sS,b.sV.trans a.sV,ns++ms,by rw [b1,a1,List.append_assoc],?_,?_,?_,λhr=>by rw [b5 hr,a5 hr];rfl⟩
 ·rw [MM]
  exact ⟨b2,a2,λx hx y hy e=>hd x hx (e ▸ hy)⟩
 ·intro D hD
  rcases dR.1 hD with h1|h1
  ·refine ⟨?_,(b3 D h1).2.1,by rw [<-a.h0];exact (b3 D h1).2.2⟩
   rw [<-a4 D (hd D h1)];exact (b3 D h1).1
  ·refine ⟨(a3 D h1).1,?_,(a3 D h1).2.2⟩
   rw [b4 D (λh2=>hd D h2 h1)];exact (a3 D h1).2.1
 ·intro b hb
  rw [b4 b (λh=>hb (wj _ h)),a4 b (λh=>hb (AO _ h))]
theorem Ext.eq {f f':Fr} (h:Ext true f f'):f'=f:=by
 obtain ⟨ms,a1,_,_,a4,a5⟩:=h.gr
 have:=a5 rfl
 subst this
 obtain ⟨F,H0,w0,sS,sV,dS⟩:=f
 obtain ⟨F',H0',w0',sS',sV',dS'⟩:=f'
 have e1:F'=F:=funext λb=>a4 b (by simp)
 have e2:=h.h0;have e3:=h.w0;have e4:=h.sS;have e5:=h.sV
 simp at a1 e2 e3 e4 e5
 subst e1;subst e2;subst e3;subst e4;subst e5;subst a1
 rfl
def pJ (r:Bool) (f:Fr) (k:Exit->St->Prop):Exit->Act->World->Prop :=
 λe a' w'=>∃f' s' η' H',Ext r f f'/\Den f' s' η' H' a' w'/\k e s'
theorem pJ.up {r:Bool} {f f':Fr} {k:Exit->St->Prop} (h:Ext r f f') {e:Exit} {a:Act} {w:World} (p:pJ r f' k e a w):pJ r f k e a w:=by
 obtain ⟨g,s',η',H',h1,h2,h3⟩:=p
 exact ⟨g,s',η',H',h.trans h1,h2,h3⟩
theorem pJ.of {r:Bool} {f:Fr} {k:Exit->St->Prop} {e:Exit} {s:St} {η:Nat->Value} {H:bB} {a:Act} {w:World} (D:Den f s η H a w) (h:k e s):pJ r f k e a w:=⟨f,s,η,H,Ext.refl r f,D,h⟩
theorem RF.inRound {r:Bool} {F:Fence} (R:RF r F) (l:Nat):RF true (F.inRound l):=by
 cases r
 ·have R:F=_:=R;subst R;exact ⟨l,rfl⟩
 ·obtain ⟨m,rfl⟩:=R;exact ⟨l,rfl⟩
section
variable {F:Fence} {n:Nat} {P:Program} {Q:Exit->Act->World->Prop} {a:Act} {w:World}
theorem wpIn_loop_ghost {c:Code} (I:Nat->Act->World->Prop) (n₀:Nat) (h₀:I n₀ a w)
  (round:∀m a w,I m a w->c.wpIn F n P (Exit.then (λa' w'=>∃n',n' < m/\I n' a' w') Q) a w):(Code.loop c).wpIn F n P Q a w:=by
 refine wpIn_loop (λa w=>∃n,I n a w) (λa w=>leastOf (λn=>I n a w)) ⟨n₀,h₀⟩ ?_
 intro a w hI
 refine wpIn_mono (round _ a w (leastOf_spec hI).1) ?_
 intro e a' w' hq
 cases e with
 | normal =>
  obtain ⟨n',aP,VN⟩:=hq
  exact show (∃n,I n a' w')/\leastOf (λn=>I n a' w') < leastOf (λn=>I n a w) from ⟨⟨n',VN⟩,Nat.lt_of_le_of_lt ((leastOf_spec ⟨n',VN⟩).2 n' VN) aP⟩
 | exit id=>exact hq
 | goto l=>exact hq
 | ret=>exact hq
 | panic ch=>exact hq
 | outgrown=>exact hq
variable {b:Frame} {k:List Item} {cs:List Frame}
theorem Fy {c:Code}:step P (lone (b.atR a (.code (.scope c) :: k)) cs w)=.next (lone (b.atR a (.code c :: .inScope c :: k)) cs w) :=
 step_lone_go (by simp [stepG,stepG.exec,Frame.atR])
theorem aiO {c:Code}:step P (lone (b.atR a (.inScope c :: k)) cs w)=.next (lone (b.atR a k) cs w) :=
 step_lone_go (by simp [stepG,stepG.exec,Frame.atR])
theorem aiG {c:Code} (h:c.wpIn F n P (Exit.noGoto Q) a w):(Code.scope c).wpIn F n P Q a w:=by
 intro b k cs hro hb hr
 have h0:(lone (b.atR a (.code (.scope c) :: k)) cs w).fenced P F:=fenced_calm hb hr rfl
 obtain ⟨e,a₁,w₁,hq,GM⟩:=h b (.inScope c :: k) cs hro hb hr
 cases e with
 | normal=>exact ⟨.normal,a₁,w₁,hq,.head h0 Fy (StepsIn.trans GM (.one (fenced_calm hb hr rfl) aiO))⟩
 | exit id =>
  have hx:exitTo id (.inScope c :: k)=exitTo id k:=by simp [exitTo]
  exact ⟨.exit id,a₁,w₁,hq,λk' hk=>.head h0 Fy (GM.1 k' (by rw [hx];exact hk)),
   λrh hk=>let ⟨k₁,h1,h2⟩:=GM.2 rh (by rw [hx];exact hk);⟨k₁,h1,.head h0 Fy h2⟩⟩
 | goto l=>exact hq.elim
 | ret=>exact ⟨_,a₁,w₁,hq,.of_steps (.one h0 Fy) GM⟩
 | panic ch=>exact ⟨_,a₁,w₁,hq,.of_steps (.one h0 Fy) GM⟩
 | outgrown=>exact ⟨_,a₁,w₁,hq,.of_steps (.one h0 Fy) GM⟩
end
def Bk:List Nat->World->World
 | [],w=>w
 | D :: r,w=>Bk r (w.putObj D (.deferred none))
theorem Mr:∀{ms:List Nat} {w:World} {b:Nat},b∉ms->(Bk ms w).heap[b]?=w.heap[b]?
 | [],w,b,_=>rfl
 | D :: r,w,b,h=>by
  simp only [cV,not_or] at h
  simp only [Bk]
  rw [Mr h.2,World.putObj_heap_other h.1]
theorem Mv:∀(ms:List Nat) (w:World),(Bk ms w).os=w.os/\(Bk ms w).tape=w.tape/\(Bk ms w).output=w.output
 | [],w=>⟨rfl,rfl,rfl⟩
 | D :: r,w=>Mv r (w.putObj D (.deferred none))
theorem XU {F:Fence} {n:Nat} {P:Program} {fn:Func} {tmps:Array Value} {R:Ending->World->Prop}:∀{ms:List Nat} {w:World},
  (∀D∈ms,w.heap[D]?=some (.deferred (some [])))->ms.Nodup->LeavesInM F n P fn tmps R [] .returning (Bk ms w)->LeavesInM F n P fn tmps R (ms.map Gr) .returning w
 | [],w,_,_,h=>h
 | D :: r,w,hm,hn,h=>by
  rw [yS] at hn
  refine ⟨by simp,.inl ⟨D,w.putObj D (.deferred none),rfl,run_takeDeferred (hm D (by simp)),?_⟩⟩
  refine XU (λD' h'=>?_) hn.2 h
  rw [World.putObj_heap_other (λe=>hn.1 (by rw [<-e];exact h'))]
  exact hm D' (by simp [h'])
section
variable {P:Program} {f f':Fr} {s:St} {η:Nat->Value} {H:bB} {a:Act} {w:World}
theorem Den.shut (E:Ext false f f') (hd:f.dS=[]) (D:Den f' s η H a w):∃ms,a.defers=ms.map Gr/\ms.Nodup/\(∀M∈ms,w.heap[M]?=some (.deferred (some []))) /\
  ∀ts,aQ η (aW s.b) H s.t ts->Den f s η H ⟨ts.toArray,[]⟩ (Bk ms w):=by
 obtain ⟨ms,a1,a2,a3,a4,_⟩:=E.gr
 rw [hd,Ax] at a1
 have hF:∀b,f'.F b=none->b∉ms/\f.F b=none:=λb hb=>by
  by_cases h:b∈ms
  ·rw [(a3 b h).2.1] at hb;cases hb
  ·exact ⟨h,by rw [<-a4 b h];exact hb⟩
 have hFs:∀b o,f.F b=some o->b∉ms:=λb o hb h=>by rw [(a3 b h).1] at hb;cases hb
 have hHs:∀b o,H b=some o->b∉ms:=λb o hb h=>by
  rcases D.hf b (by rw [hb];simp) with h1|h1
  ·rw [E.h0] at h1;exact h1 (a3 b h).2.2
  ·rw [(a3 b h).2.1] at h1;cases h1
 refine ⟨ms,by rw [D.d,a1],a2,λM hM=>D.fw M _ (a3 M hM).2.1,λts ht=>?_⟩
 exact {
  t:=ht
  sv:=by rw [<-E.sS,<-E.sV];exact D.sv
  d:=by rw [hd];rfl
  h0:=by rw [<-E.h0];exact D.h0
  hw:=λb o hb=>by rw [Mr (hHs b o hb)];exact D.hw b o hb
  fw:=λb o hb=>by rw [Mr (hFs b o hb)];exact D.fw b o (by rw [a4 b (hFs b o hb)];exact hb)
  hf:=λb hb=>by
   rcases D.hf b hb with h1|h1
   ·rw [E.h0] at h1;exact .inl h1
   ·exact .inr (hF b h1).2
  sl:=λl x hx=>by
   have hs:=D.sl l x hx
   by_cases cO:x.live=.live
   ·refine hs.kept (iU.refl _ _) (bB.le.refl _) rfl λb hb=>?_
    exact Mr (hF b (D.dh l b (by rw [cv hx];exact cO) hb).2).1
   ·cases x with
    | un=>trivial
    | dead=>trivial
    | fix=>exact absurd rfl cO
    | dyn=>exact absurd rfl cO
    | fu=>exact absurd rfl cO
    | map=>exact absurd rfl cO
    | iter=>exact absurd rfl cO
    | eO=>exact absurd rfl cO
  dj:=D.dj
  dh:=λl b h1 h2=>⟨(D.dh l b h1 h2).1,(hF b (D.dh l b h1 h2).2).2⟩
  os:=by rw [(Mv ms w).1,D.os,E.w0]
  tape:=by rw [(Mv ms w).2.1,D.tape,E.w0]
  out:=by rw [(Mv ms w).2.2,D.out,E.w0] }
theorem Den.mark (D:Den f s η H a w):Den { f with F:=λb=>if b=w.heap.size then some (.deferred (some [])) else f.F b,dS:=w.heap.size :: f.dS } s η H { a with defers:=Gr w.heap.size :: a.defers } (w.alloc (.deferred (some []))) /\
  Ext false f { f with F:=λb=>if b=w.heap.size then some (.deferred (some [])) else f.F b,dS:=w.heap.size :: f.dS }:=by
 have D1:=D.grown (World.grownBy_alloc w (.deferred (some [])) none)
 have kO:∀b o,w.heap[b]?=some o->b≠w.heap.size:=λb o h e=>by
  have:=(fW.1 h).1
  omega
 have hF:f.F w.heap.size=none:=by
  cases h:f.F w.heap.size with
  | none=>rfl
  | some o=>exact absurd rfl (kO _ _ (D.fw _ _ h))
 have hH:H w.heap.size=none:=by
  cases h:H w.heap.size with
  | none=>rfl
  | some o=>exact absurd rfl (kO _ _ (D.hw _ _ h))
 have PE:f.H0 w.heap.size=none:=by
  cases h:f.H0 w.heap.size with
  | none=>rfl
  | some o=>have:=D.h0 _ _ h;rw [hH] at this;cases this
 refine ⟨{ D1 with
  d:=by simp [D.d]
  fw:=λb o h=>by
   simp only at h
   split at h
   ·rename_i e;subst e;cases h;exact World.alloc_heap_new w _
   ·exact D1.fw b o h
  hf:=λb hb=>by
   rcases D1.hf b hb with h|h
   ·exact .inl h
   ·right
    simp only
    rw [if_neg ?_];exact h
    intro e;subst e;exact hb hH
  dh:=λl b h1 h2=>by
   have:=D1.dh l b h1 h2
   refine ⟨this.1,?_⟩
   simp only
   rw [if_neg ?_];exact this.2
   intro e
   have:=D.Dd h1 h2
   omega
  os:=D1.os,tape:=D1.tape,out:=D1.out },rfl,rfl,rfl,rfl,[w.heap.size],rfl,by simp,?_,?_,λh=>by cases h⟩
 ·intro M hM
  simp at hM;subst hM
  exact ⟨hF,by simp,PE⟩
 ·intro b hb
  simp at hb
  simp [hb]
theorem Den.OK (D:Den f s η H a w) {l bl:Nat} {x y:Slot} (hx:s.b[l]?=some x) (x7:x.live=.live) (hy:y.live=.live) (hb:cy (η l)=some bl) (o:Obj)
  (kI:iU η η (aW s.b) (aW (s.b.set l y))->ke η (aW (s.b.set l y)) H (w.putObj bl o) l y):Den f { s with b:=s.b.set l y } η H a (w.putObj bl o):=by
 have hq:aW s.b l=.live:=by rw [cv hx];exact x7
 exact D.change (w':=w.putObj bl o) (η':=η) (l:=l) (x:=y) none rfl (λ_ _=>rfl) (.inr ⟨hq,rfl,rfl⟩) hy (λ_ h=>by cases h) (some bl) (QM w bl o)
  (λk hk=>by cases hk;exact .inr ⟨hq,hb⟩) (λb iV=>.inr (.inr ⟨hq,iV⟩)) kI
theorem Den.drop (D:Den f s η H a w) {l bl:Nat} (hq:aW s.b l=.live) (hb:cy (η l)=some bl) (o:Obj):Den f { s with b:=s.b.set l .dead } η H a (w.putObj bl o):=by
 obtain ⟨x,hx,x7⟩:=uc hq
 have aP:=(bt.1 hx).1
 have VO:∀k,aW (s.b.set l .dead) k=if k=l then .dead else aW s.b k:=λk=>ua k aP
 have hT:iU η η (aW s.b) (aW (s.b.set l .dead)):=λk=>by
  cases hk:aW s.b k with
  | un=>trivial
  | dead=>simp only [VO];split;rfl;exact hk
  | live =>
   simp only [VO]
   split
   ·exact .inr rfl
   ·exact .inl ⟨hk,trivial⟩
 have pE:∀k,aW (s.b.set l .dead) k=.live->aW s.b k=.live/\k≠l:=λk hk=>by
  rw [VO] at hk
  split at hk
  ·cases hk
  ·exact ⟨hk,by assumption⟩
 have own:=D.dh l bl hq hb
 have ne:∀b,b≠bl->(w.putObj bl o).heap[b]?=w.heap[b]?:=λb h=>World.putObj_heap_other h
 exact {
  t:=gW hT (bB.le.refl _) _ _ D.t
  sv:=gW hT (bB.le.refl _) _ _ D.sv
  d:=D.d
  h0:=D.h0
  hw:=λb o' h=>by rw [ne b (λe=>by subst e;rw [own.1] at h;cases h)];exact D.hw b o' h
  fw:=λb o' h=>by rw [ne b (λe=>by subst e;rw [own.2] at h;cases h)];exact D.fw b o' h
  hf:=D.hf
  sl:=λk y hy=>by
   by_cases dG:k=l
   ·subst dG
    have hy:(s.b.set k .dead)[k]?=some y:=hy
    rw [qc aP] at hy
    cases hy;trivial
   ·have hy:(s.b.set l .dead)[k]?=some y:=hy
    rw [ig (λe=>dG e.symm)] at hy
    have hs:=D.sl k y hy
    by_cases cO:y.live=.live
    ·refine hs.kept hT (bB.le.refl _) rfl λb h=>ne b λe=>?_
     subst e
     exact dG (D.dj k l b (by rw [cv hy];exact cO) hq h hb)
    ·cases y with
     | un=>trivial
     | dead=>trivial
     | fix=>exact absurd rfl cO
     | dyn=>exact absurd rfl cO
     | fu=>exact absurd rfl cO
     | map=>exact absurd rfl cO
     | iter=>exact absurd rfl cO
     | eO=>exact absurd rfl cO
  dj:=λk k' b h1 h2=>D.dj k k' b (pE k h1).1 (pE k' h2).1
  dh:=λk b h1=>D.dh k b (pE k h1).1
  os:=D.os
  tape:=D.tape
  out:=D.out }
end
abbrev FP:=Option Nat × List Nat
def Bl (s:St):List Tmp->List Nat
 | []=>[]
 | t :: r=>match iz s t with
  | some l=>l :: Bl s r
  | none=>Bl s r
def fp (o:Oper) (s:St):FP :=
 (
  match o7 o.op with
   | true=>(match kD o.op with
    | some x=>iz s x
    | none=>none)
   | false=>none,
  match gZ o.op with
   | some ys=>Bl s ys
   | none=>[])
def GN:Option Nat->List Nat->Bool
 | none,_=>true
 | some l,ys=>ys.all λy=>!Nat.beq l y
def GP (f g:FP):Bool:=GN f.1 g.2&&GN g.1 f.2
def qU (p j:Oper):Bool:=o7 p.op&&uB j.op
def known (p j:Oper):Bool:=!qU p j||((kD p.op).isSome&&(gZ j.op).isSome)
def ND (ops:List Oper) (p j:Oper):Bool:=Nz ops p j&&(known p j&&known j p)
theorem Zc {s:St}:∀{ys:List Tmp} {y:Tmp} {l:Nat},y∈ys->iz s y=some l->l∈Bl s ys
 | [],y,l,h,_=>by cases h
 | t :: r,y,l,h,hl=>by
  unfold Bl
  rcases cV.1 h with rfl|h
  ·rw [hl];simp
  ·have:=Zc h hl
   split
   ·exact rH _ this
   ·exact this
theorem X8 {s s':St}:∀{ys:List Tmp},(∀y∈ys,iz s y=iz s' y)->Bl s ys=Bl s' ys
 | [],_=>rfl
 | t :: r,h=>by
  unfold Bl
  rw [h t (by simp),X8 λy hy=>h y (by simp [hy])]
theorem amB {l:Nat} {ys:List Nat} (h:GN (some l) ys=true):l∉ys:=λhl=>by
 have:=jo.1 h l hl
 simp at this
theorem Sep.of {p j:Oper} {s:St} (hk:known p j=true) (h:qU p j=true->GN (fp p s).1 (fp j s).2=true):Sep p j s:=λhw=>by
 cases hr:uB j.op with
 | false=>exact .inl rfl
 | true =>
  right
  have hc:qU p j=true:=by simp [qU,hw,hr]
  have h:=h hc
  simp only [known,hc,Bool.not_true,Bool.false_or,cQ] at hk
  obtain ⟨x,hx⟩:=tR.1 hk.1
  obtain ⟨ys,hy⟩:=tR.1 hk.2
  refine ⟨x,ys,hx,hy,λl hl y hm PF=>?_⟩
  simp only [fp,hw,hx,hy,hl] at h
  exact amB h (Zc hm PF)
theorem Zd {op:Op} {ys:List Tmp} (h:gZ op=some ys):∀y∈ys,y∈lu op:=by
 have one:∀{x:Operand} {t:Tmp},x=.tmp t->x∈op.operands->t∈lu op:=λ{x t} hx hm =>
  FH.2 ⟨x,by simpa using hm,by rw [hx]⟩
 cases op<;>try (cases h;done)
 case load ty x=>cases x<;>simp [gZ] at h;subst h;intro y hy;simp at hy;subst hy;exact one rfl (by simp [Op.operands])
 case store ty x z=>cases x<;>simp [gZ] at h;subst h;intro y hy;simp at hy;subst hy;exact one rfl (by simp [Op.operands])
 case lookup ty x z ok=>cases x<;>simp [gZ] at h;subst h;intro y hy;simp at hy;subst hy;exact one rfl (by simp [Op.operands])
 case entry x=>cases x<;>simp [gZ] at h;subst h;intro y hy;simp at hy;subst hy;exact one rfl (by simp [Op.operands])
 case mapUpdate ty x z z'=>cases x<;>simp [gZ] at h;subst h;intro y hy;simp at hy;subst hy;exact one rfl (by simp [Op.operands])
 case insert ty x z z'=>cases x<;>simp [gZ] at h;subst h;intro y hy;simp at hy;subst hy;exact one rfl (by simp [Op.operands])
 case indexAddr ty x z=>cases x<;>simp [gZ] at h;subst h;intro y hy;simp at hy;subst hy;exact one rfl (by simp [Op.operands])
 case slice ty x lo hi mx =>
  cases x<;>cases mx<;>simp [gZ] at h
  subst h;intro y hy;simp at hy;subst hy;exact one rfl (by simp [Op.operands])
 case call c =>
  cases hc:c.callee with
  | value g=>simp [gZ,hc] at h
  | invoke r m=>simp [gZ,hc] at h
  | builtin b =>
   simp only [gZ,hc,rI] at h
   subst h
   intro y hy
   obtain ⟨x,hx,e⟩:=FH.1 hy
   cases x<;>simp at e
   subst e
   exact one rfl (Mq hx)
theorem ajB {op:Op} {t:Tmp} (h:kD op=some t):∃ys,gZ op=some ys:=by
 cases op<;>try (cases h;done)
 case store ty x z=>cases x<;>simp [kD] at h;exact ⟨_,rfl⟩
 case mapUpdate ty x y z=>cases x<;>simp [kD] at h;exact ⟨_,rfl⟩
 case insert ty x y z=>cases x<;>simp [kD] at h;exact ⟨_,rfl⟩
 case call c =>
  cases hc:c.callee with
  | value g=>simp [kD,hc] at h
  | invoke r m=>simp [kD,hc] at h
  | builtin b=>exact ⟨tmpsOf c.args.toList,by simp [gZ,hc]⟩
theorem alc {j:Oper} {s s':St} (h:∀t∈lu j.op,iz s t=iz s' t):fp j s=fp j s':=by
 unfold fp
 congr 1
 ·cases o7 j.op with
  | false=>rfl
  | true =>
   simp only
   cases hw:kD j.op with
   | none=>rfl
   | some x =>
    obtain ⟨ys,hy⟩:=ajB hw
    exact h x (Zd hy x (ZZ hw hy))
 ·cases hr:gZ j.op with
  | none=>rfl
  | some ys=>exact X8 λy hy=>h y (Zd hr y hy)
section
variable {P:Program} {X:Ctx} {f:Fr} {s:St} {η:Nat->Value} {H:bB} {a:Act} {w:World}
theorem aa9 {ops:List Oper} {p j:Oper} {l:Nat} {s1:St} (h:Out X ops p l s s1) (ap:y6 ops p j):fp j s1=fp j s:=by
 obtain ⟨g,x,u,h1,rfl⟩:=Dj.1 h
 refine alc λt ht=>?_
 rw [Y8 (b':=s.b) λi hi e=>ap.d1 i hi (e ▸ ht)]
 rcases h1.guard with ⟨_,rfl⟩|⟨i,y,v,_,rfl,h3,h4⟩
 ·rfl
 ·exact IE h3 h4 s.b t
abbrev It:=(Nat × Oper × Nat) × FP
def Bt (X:Ctx) (ops:List Oper):List It->St->(St->Prop)->Prop
 | [],s,k=>k s
 | x :: L,s,k=>∃s',Out X ops x.1.2.1 x.1.2.2 s s'/\fp x.1.2.1 s=x.2/\Bt X ops L s' k
def Up (X:Ctx) (ops:List Oper):List (Oper × Nat)->List FP->St->(List FP->St->Prop)->Prop
 | [],acc,s,k=>k acc s
 | (o,l) :: r,acc,s,k=>N8 X ops o l s λs'=>Up X ops r (acc++[fp o s]) s' k
theorem Z9 {ops:List Oper} {K:List FP->St->Prop}:∀(L:List (Nat × Oper × Nat)) (acc:List FP) (s:St),Up X ops (ol L) acc s K->∃fs:List FP,fs.length=L.length/\Bt X ops (L.zip fs) s (K (acc++fs))
 | [],acc,s,h=>⟨[],rfl,by rw [Ax];exact h⟩
 | x :: L,acc,s,h=>by
  obtain ⟨s',h1,h2⟩:=(Y1 X ops x.2.1 x.2.2 s _).1 h
  obtain ⟨fs,h3,h4⟩:=Z9 L (acc++[fp x.2.1 s]) s' h2
  refine ⟨fp x.2.1 s :: fs,by simp [h3],s',h1,rfl,?_⟩
  rw [List.append_assoc] at h4
  exact h4
theorem aaa {ops:List Oper} {k:St->Prop}:∀(L:List (Nat × Oper × Nat)) (s:St),km X ops (ol L) s k->∃fs:List FP,fs.length=L.length/\Bt X ops (L.zip fs) s k
 | [],s,h=>⟨[],rfl,h⟩
 | x :: L,s,h=>by
  obtain ⟨s',h1,h2⟩:=tQ.1 h
  obtain ⟨fs,h3,h4⟩:=aaa L s' h2
  exact ⟨fp x.2.1 s :: fs,by simp [h3],s',h1,rfl,h4⟩
structure Uq (ops:List Oper) (x y:It):Prop where
 t:y6 ops x.1.2.1 y.1.2.1
 k1:known x.1.2.1 y.1.2.1=true
 k2:known y.1.2.1 x.1.2.1=true
 s1:qU x.1.2.1 y.1.2.1=true->GN x.2.1 y.2.2=true
 s2:qU y.1.2.1 x.1.2.1=true->GN y.2.1 x.2.2=true
theorem aba (C:X.Ok P) {ops:Array Oper} {k:St->Prop} (x:It) (B:List It):∀(A:List It) {s:St},Good f s->lP ops s ((A++x :: B).map (·.1))->(∀p∈A,Uq ops.toList p x) ->
  Bt X ops.toList (A++x :: B) s k->Bt X ops.toList (x :: A++B) s k
 | [],s,_,_,_,h=>h
 | p :: A,s,G,W,hA,h=>by
  obtain ⟨s1,h1,BW,h2⟩:=h
  have hp:=hA p (by simp)
  have G1:=G.out C (W.get p.1 (by simp)) (λha=>W.un p.1 (by simp) ha) (W.store p.1 (by simp)) h1
  obtain ⟨s2,h4,h4',h5⟩:=aba C x B A G1 (W.tail h1) (λq hq=>hA q (by simp [hq])) h2
  have hx:fp x.1.2.1 s=x.2:=(aa9 h1 hp.t).symm.trans h4'
  have DW:=(fH.1 W.ji).1 x.1 (by simp)
  obtain ⟨Hr,h6,h7⟩:=swap G hp.t (Sep.of hp.k1 (by rw [BW,hx];exact hp.s1)) (Sep.of hp.k2 (by rw [BW,hx];exact hp.s2)) (λha=>W.un p.1 (by simp) ha) (λha=>W.un x.1 (by simp) ha) DW h1 h4
  exact ⟨Hr,h6,hx,s2,h7,(aa9 h6 hp.t.symm).trans BW,h5⟩
def NF (ops:List Oper):List Oper->List Oper->List Nat->Bool
 | [],_,_=>true
 | o :: r,pre,acc =>
  (o.after.toList.all λe=>!Region.binds .any e||Nat.blt e.on pre.length) &&
  (pre.zipIdx.all λp=>(qR acc o).testBit p.2||ND ops p.1 o) &&
  NF ops r (pre++[o]) (acc++[qR acc o])
def Sl (ops:List Oper):Bool:=NF ops ops [] []
def Dv (m:Nat) (o:Oper) (i:Nat):List Oper->Nat->List (Nat × Nat)
 | [],_=>[]
 | p :: r,j=>match qU p o||qU o p with
  | true=>match m.testBit j with
   | true=>Dv m o i r (j+1)
   | false=>(j,i) :: Dv m o i r (j+1)
  | false=>Dv m o i r (j+1)
def Jq:List Oper->List Oper->List Nat->List (Nat × Nat)
 | [],_,_=>[]
 | o :: r,pre,acc=>Dv (qR acc o) o pre.length pre 0++Jq r (pre++[o]) (acc++[qR acc o])
def SN (ops:List Oper):List (Nat × Nat):=Jq ops [] []
def Jr (fs:List FP):List (Nat × Nat)->Bool
 | []=>true
 | q :: r=>(match fs[q.1]?,fs[q.2]? with
  | some f,some g=>GP f g
  | _,_=>false)&&Jr fs r
structure aab (ops:List Oper):Prop where
 back:∀i o e,ops[i]?=some o->e∈o.after.toList->Region.binds .any e=true->e.on < i
 apart:∀i o j p,ops[i]?=some o->ops[j]?=some p->j < i->nQ ops j i\/ND ops p o=true/\((qU p o||qU o p)=true->(j,i)∈SN ops)
theorem Ze {m:Nat} {o:Oper} {i:Nat}:∀{r:List Oper} {n j:Nat} {p:Oper},r[j]?=some p->(qU p o||qU o p)=true->m.testBit (n+j)=false->(n+j,i)∈Dv m o i r n
 | [],n,j,p,h,_,_=>by simp at h
 | x :: r,n,0,p,h,hc,hm=>by
  simp at h;subst h
  unfold Dv
  rw [hc]
  simp only
  rw [show m.testBit n=false by simpa using hm]
  simp
 | x :: r,n,j+1,p,h,hc,hm=>by
  have:=Ze (i:=i) (r:=r) (n:=n+1) (j:=j) (by simpa using h) hc (by rwa [show n+1+j=n+(j+1) by omega])
  rw [show n+1+j=n+(j+1) by omega] at this
  unfold Dv
  split
  ·split
   ·exact this
   ·exact rH _ this
  ·exact this
theorem X9 (ops:List Oper):∀(r pre:List Oper) (acc:List Nat),ops=pre++r->acc.length=pre.length ->
  (∀i j,i < pre.length->(acc.getD i 0).testBit j=true->nQ ops j i) ->
  NF ops r pre acc=true->(∀i o e,pre.length<=i->ops[i]?=some o->e∈o.after.toList->Region.binds .any e=true->e.on < i) /\
   ∀i o j p,pre.length<=i->ops[i]?=some o->ops[j]?=some p->j < i->nQ ops j i\/ND ops p o=true/\((qU p o||qU o p)=true->(j,i)∈Jq r pre acc)
 | [],pre,acc,he,_,_,_=>by
  have hn:∀i o,pre.length<=i->ops[i]?=some o->False:=λi o hi ho=>by
   rw [he,Ax,nF hi] at ho;cases ho
  exact ⟨λi o e hi ho=>(hn i o hi ho).elim,λi o j p hi ho=>(hn i o hi ho).elim⟩
 | o :: r,pre,acc,he,hl,hm,h=>by
  simp only [NF,cQ] at h
  obtain ⟨⟨h1,h2⟩,h3⟩:=h
  have nm:ops[pre.length]?=some o:=by rw [he];simp
  have JH:∀e,e∈o.after.toList->Region.binds .any e=true->e.on < pre.length:=by
   intro e gm hb
   have:=jo.1 h1 e gm
   rw [hb] at this
   simpa [FQ] using this
  have DF:∀j,(qR acc o).testBit j=true->nQ ops j pre.length:=by
   intro j hj S hS hi
   rcases Sj acc o.after.toList 0 j hj with h|⟨e,h4,h5,h6⟩
   ·simp at h
   ·have BT:=hi o e nm h4 h5
    rcases h6 with h6|h6
    ·rw [<-h6];exact BT
    ·exact hm e.on j (JH e h4 h5) h6 S hS λo' e' im gm iV=>hS e.on o' e' im BT gm iV
  have ih:=X9 ops r (pre++[o]) (acc++[qR acc o]) (by rw [he];simp) (by simp [hl]) (λi j hi hj=>by
   simp at hi
   by_cases aP:i < pre.length
   ·refine hm i j aP ?_
    rw [List.getD_eq_getElem?_getD,j7 (by omega)] at hj
    rw [List.getD_eq_getElem?_getD];exact hj
   ·have:i=pre.length:=by omega
    subst this
    refine DF j ?_
    rw [List.getD_eq_getElem?_getD,qb (by omega)] at hj
    simpa [hl] using hj) h3
  simp only [List.length_append,qd,FK] at ih
  refine ⟨λi o' e hi im gm iV=>?_,λi o' j p hi im hp hj=>?_⟩
  ·by_cases nt:i=pre.length
   ·subst nt
    rw [nm] at im;simp at im;subst im
    exact JH e gm iV
   ·exact ih.1 i o' e (by omega) im gm iV
  ·by_cases nt:i=pre.length
   ·subst nt
    rw [nm] at im;simp at im;subst im
    have eD:pre[j]?=some p:=by rw [he,j7 hj] at hp;exact hp
    have:=jo.1 h2 (p,j) (by rw [FY];simpa using eD)
    simp only [px] at this
    cases hb:(qR acc o).testBit j with
    | true=>exact .inl (DF j hb)
    | false =>
     right
     rw [hb] at this
     refine ⟨by simpa using this,λhc=>?_⟩
     unfold Jq
     refine wj _ ?_
     have:=Ze (m:=qR acc o) (o:=o) (i:=pre.length) (r:=pre) (n:=0) eD hc (by simpa using hb)
     simpa using this
   ·refine (ih.2 i o' j p (by omega) im hp hj).imp id λ⟨h4,h5⟩=>⟨h4,λhc=>?_⟩
    unfold Jq
    exact AO _ (h5 hc)
theorem aiP {ops:List Oper} (h:Sl ops=true):aab ops:=by
 obtain ⟨h1,h2⟩:=X9 ops ops [] [] rfl rfl (λi j hi=>by simp at hi) h
 exact ⟨λi o e=>h1 i o e (cg _),λi o j p=>h2 i o j p (cg _)⟩
theorem Ya {fs:List FP}:∀{ps:List (Nat × Nat)},Jr fs ps=true->∀q∈ps,∃f g,fs[q.1]?=some f/\fs[q.2]?=some g/\GP f g=true
 | [],_,q,hq=>by cases hq
 | x :: r,h,q,hq=>by
  simp only [Jr,cQ] at h
  rcases cV.1 hq with rfl|hq
  ·have h1:=h.1
   split at h1
   ·exact ⟨_,_,by assumption,by assumption,h1⟩
   ·cases h1
  ·exact Ya h.2 q hq
theorem ald (C:X.Ok P) {ops:Array Oper} (O:aab ops.toList) {Q:Exit->Act->World->Prop} {k:St->Prop} (hk:∀s' η' H' a' w',Den f s' η' H' a' w'->k s'->Q .normal a' w') :
  ∀(n:Nat) (L:List It) {cN:Array Bool} {s:St} {η:Nat->Value} {H:bB} {a:Act} {w:World},L.length=n->lP ops s (L.map (·.1))->L.Pairwise (λx y=>x.1.1 < y.1.1) ->
   (∀x∈L,∀y∈L,x.1.1 < y.1.1->nQ ops.toList x.1.1 y.1.1\/Uq ops.toList x y) ->
   (∀i,i < ops.size->(cN.getD i true=false↔∃x∈L,x.1.1=i))->(∀i,cN.getD i false=true\/cN.getD i true=false\/ops.size<=i) ->
   (∀i o e,ops[i]?=some o->cN.getD i false=true->e∈o.after.toList->Region.binds .any e=true->cN.getD e.on false=true) ->
   Den f s η H a w->Bt X ops.toList L s k->wpAny P .any ops Q n cN a w:=by
 intro n
 induction n with
 | zero =>
  intro L cN s η H a w hn W kE Ur nM eZ zh D h
  have:L=[]:=iF hn
  subst this
  refine ⟨?_,hk s η H a w D h⟩
  rw [FX]
  intro i hi
  obtain ⟨h0,o,ho,_⟩:=mem_ready.1 hi
  have aP:=(fW.1 ho).1
  obtain ⟨x,hx,_⟩:=(nM i aP).1 h0
  cases hx
 | succ n ih =>
  intro L cN s η H a w hn W kE Ur nM eZ zh D h
  constructor
  ·intro hr
   cases L with
   | nil=>simp at hn
   | cons x L =>
    have hx:=W.get x.1 (by simp)
    have aP:=(fW.1 hx).1
    have:x.1.1∈Region.ready .any ops cN:=by
     refine mem_ready.2 ⟨(nM x.1.1 aP).2 ⟨x,by simp,rfl⟩,x.1.2.1,hx,λe he hb=>?_⟩
     have xW:=O.back x.1.1 x.1.2.1 e (by simpa using hx) (by simpa using he) hb
     rcases eZ e.on with h1|h1|h1
     ·exact h1
     ·obtain ⟨y,hy,BU⟩:=(nM e.on (by omega)).1 h1
      rcases cV.1 hy with rfl|hy
      ·omega
      ·have:=(fH.1 kE).1 y hy;omega
     ·omega
    rw [hr] at this
    cases this
  ·intro i hi
   obtain ⟨h0,o,ho,wF⟩:=mem_ready.1 hi
   have aP:=(fW.1 ho).1
   obtain ⟨x,hx,rfl⟩:=(nM i aP).1 h0
   obtain ⟨A,B,rfl⟩:=FI hx
   have ju:=W.get x.1 (by simp)
   rw [ho] at ju
   simp at ju
   have jH:=j8.1 kE
   have hA:∀p∈A,Uq ops.toList p x:=by
    intro p hp
    have PD:p.1.1 < x.1.1:=jH.2.2 p hp x (by simp)
    have vF:=W.get p.1 (IQ (by simp [hp]))
    rcases Ur p (by simp [hp]) x (by simp) PD with hF|hi
    ·have:=hF (λr=>cN.getD r false=true) (λr o' e hr hS he hb=>zh r o' e (by simpa using hr) hS he hb)
      (λo' e im he hb=>by
       have:o'=o:=by
        have h1:ops[x.1.1]?=some o':=by simpa using im
        rw [ho] at h1;simpa using h1.symm
       subst this
       exact wF e (by simpa using he) hb)
     have kZ:=(nM p.1.1 (fW.1 vF).1).2 ⟨p,by simp [hp],rfl⟩
     have DX:p.1.1 < cN.size:=by
      rcases ov p.1.1 cN.size with h|h
      ·exact h
      ·simp [C5 h] at this
     simp [DX] at this kZ
     rw [this] at kZ;cases kZ
    ·exact hi
   have h2:=aba C x B A ⟨η,H,a,w,D⟩ W hA h
   obtain ⟨s1,h3,_,h4⟩:=h2
   have mB:(A++x :: B).Perm (x :: (A++B)):=IV
   have gk:∀y,y∈(x :: (A++B)).map (·.1)->y∈(A++x :: B).map (·.1):=λy hy=>((mB.map (·.1)).mem_iff).2 hy
   have W':lP ops s ((x :: (A++B)).map (·.1)):={
    get:=λy hy=>W.get y (gk y hy)
    store:=λy hy=>W.store y (gk y hy)
    un:=λy hy=>W.un y (gk y hy)
    ji:=((mB.map (·.1)).pairwise_iff (λ{a b} h h1 h2=>(h h2 h1).symm)).1 W.ji }
   refine I5 C D (by rw [ho,ju]) (λha=>W.un x.1 (by simp) ha) (W.store x.1 (by simp)) h3 λη' H' a' w' D'=>?_
   have J1:x.1.1 < cN.size:=by
    rcases ov x.1.1 cN.size with h|h
    ·exact h
    ·simp [C5 h] at h0
   have sW:∀j (d:Bool),(cN.setIfInBounds x.1.1 true).getD j d=if x.1.1=j then true else cN.getD j d:=by
    intro j d
    by_cases hj:x.1.1=j
    ·subst hj;simp [J1]
    ·rw [getD_set_ne d hj,if_neg hj]
   have sub:∀y,y∈A++B->y∈A++x :: B:=λy hy=>mB.mem_iff.2 (rH _ hy)
   refine ih (A++B) (by simp at hn ⊢;omega) (W'.tail h3) ?_ (λy hy z hz=>Ur y (sub y hy) z (sub z hz)) ?_ ?_ ?_ D' h4
   ·exact j8.2 ⟨jH.1,(fH.1 jH.2.1).2,λp hp q hq=>jH.2.2 p hp q (by simp [hq])⟩
   ·intro j hj
    rw [sW]
    by_cases jL:x.1.1=j
    ·subst jL
     simp only [if_true]
     refine ⟨λh=>(by cases h),λ⟨y,hy,BV⟩=>?_⟩
     exfalso
     rcases dR.1 hy with hy|hy
     ·have:=jH.2.2 y hy x (by simp);omega
     ·have:=(fH.1 jH.2.1).1 y hy;omega
    ·rw [if_neg jL,nM j hj]
     constructor
     ·rintro ⟨y,hy,rfl⟩
      rcases dR.1 hy with hy|hy
      ·exact ⟨y,by simp [hy],rfl⟩
      ·rcases cV.1 hy with rfl|hy
       ·exact absurd rfl jL
       ·exact ⟨y,by simp [hy],rfl⟩
     ·rintro ⟨y,hy,rfl⟩
      exact ⟨y,sub y hy,rfl⟩
   ·intro j
    rw [sW,sW]
    by_cases jL:x.1.1=j
    ·simp [jL]
    ·rw [if_neg jL,if_neg jL];exact eZ j
   ·intro j o' e hj hl he hb
    rw [sW] at hl ⊢
    split at hl
    ·rename_i jL
     subst jL
     rw [ho] at hj;simp at hj;subst hj
     split
     ·rfl
     ·exact wF e (by simpa using he) hb
    ·split
     ·rfl
     ·exact zh j o' e hj hl he hb
def regionF (X:Ctx) (ops:List Oper) (s:St) (k:St->Prop):Prop :=
 match SN ops with
 | []=>amz X ops s k
 | q :: ps=>Up X ops (e9 ops s.b.length) [] { s with b:=s.b++jY (qn ops) } λfs s'=>match Jr fs (q :: ps) with
  | true=>k s'
  | false=>False
theorem aiQ (C:X.Ok P) {r:Bool} {F:Fence} (R:RF r F) {id:Nat} {ops:Array Oper} (hs:u9 ops.toList=true) (hd:Sl ops.toList=true) {Q:Exit->Act->World->Prop} {k:St->Prop}
  (hk:∀s' η' H' a' w',Den f s' η' H' a' w'->k s'->Q .normal a' w') (D:Den f s η H a w) (h:regionF X ops.toList s k):(Code.region id ops true).wpIn F 0 P Q a w:=by
 refine wpIn_mono (Q:=vG (Q .normal)) ?_ (λe a' w' h=>by cases e<;>first|exact h|exact h.elim)
 have hk:∀s' η' H' a' w',Den f s' η' H' a' w'->k s'->vG (Q .normal) .normal a' w':=hk
 have D1:=D.ext (qn ops.toList)
 have W:=QX hs s
 have O:=aiP hd
 obtain ⟨fs,lT,iH,hps⟩:∃fs:List FP,fs.length=(items ops.toList s.b.length).length/\Bt X ops.toList ((items ops.toList s.b.length).zip fs) { s with b:=s.b++jY (qn ops.toList) } (λs'=>k s') /\
   (∀q∈SN ops.toList,∃f g,fs[q.1]?=some f/\fs[q.2]?=some g/\GP f g=true):=by
  unfold regionF at h
  split at h
  ·rename_i hp
   have h1:km X ops.toList (ol (items ops.toList s.b.length)) { s with b:=s.b++jY (qn ops.toList) } k:=by rw [yW];exact h
   obtain ⟨fs,h2,h3⟩:=aaa _ _ h1
   exact ⟨fs,h2,h3,λq hq=>by rw [hp] at hq;cases hq⟩
  ·rename_i q ps hp
   rw [<-yW] at h
   obtain ⟨fs,h2,h3⟩:=Z9 _ _ _ h
   simp only [tY] at h3
   have hb:Jr fs (q :: ps)=true:=by
    have fin:∀(L:List It) (s:St) (K:St->Prop),Bt X ops.toList L s K->∃s',K s':=by
     intro L
     induction L with
     | nil=>intro s K h;exact ⟨s,h⟩
     | cons x L ih=>intro s K h;obtain ⟨s',_,_,h⟩:=h;exact ih s' K h
    obtain ⟨s',h4⟩:=fin _ _ _ h3
    split at h4
    ·assumption
    ·exact h4.elim
   rw [hb] at h3
   exact ⟨fs,h2,h3,by rw [hp];exact Ya hb⟩
 have DY:∀x∈(items ops.toList s.b.length).zip fs,fs[x.1.1]?=some x.2/\x.1∈items ops.toList s.b.length:=by
  intro x hx
  obtain ⟨i,hi⟩:=AN.1 hx
  rw [List.getElem?_zip_eq_some] at hi
  have h1:((items ops.toList s.b.length).map (·.1))[i]?=some x.1.1:=by rw [mq,hi.1];rfl
  rw [uX] at h1
  have h2:=bt.1 h1
  have h3:i=x.1.1:=by simpa using h2.2
  exact ⟨by rw [<-h3];exact hi.2,cB hi.1⟩
 refine wpIn_region_draw λt=>NA R hs Jp _ _ _ ?_
 simp only [Region.schedule,show P.follows .mixedOrders=true from C.mixed,Bool.true_or,if_true]
 refine wpAny_sound ops.size t _ a _ ?_
 have D2:Den f { s with b:=s.b++jY (qn ops.toList) } η H a { w with drawn:=w.drawn+1 }:=D1.grown (Ml w none)
 have apL:(items ops.toList s.b.length).length=ops.size:=by
  have:=congrArg List.length (uX ops.toList s.b.length)
  simpa using this
 have hlen:((items ops.toList s.b.length).zip fs).length=ops.size:=by simp [lT,apL]
 have DU:((items ops.toList s.b.length).zip fs).map (·.1)=items ops.toList s.b.length:=by
  rw [List.map_fst_zip];omega
 have kE:((items ops.toList s.b.length).zip fs).Pairwise λx y=>x.1.1 < y.1.1:=by
  have h2:((((items ops.toList s.b.length).zip fs).map (·.1)).map (·.1)).Pairwise (· < ·):=by rw [DU,uX];exact C6
  rw [rJ,rJ] at h2
  exact h2
 refine ald C O hk ops.size _ hlen (by rw [DU];exact W) kE ?_ ?_ ?_ ?_ D2 iH
 ·intro x hx y hy si
  obtain ⟨h1,h2⟩:=DY x hx
  obtain ⟨h3,h4⟩:=DY y hy
  have h5:=W.get x.1 h2
  have h6:=W.get y.1 h4
  rcases O.apart y.1.1 y.1.2.1 x.1.1 x.1.2.1 (by simpa using h6) (by simpa using h5) si with hF|⟨hi,hp⟩
  ·exact .inl hF
  ·right
   simp only [ND,cQ] at hi
   have both:(qU x.1.2.1 y.1.2.1||qU y.1.2.1 x.1.2.1)=true->GP x.2 y.2=true:=λhc=>by
    obtain ⟨f,g,e1,e2,e3⟩:=hps _ (hp hc)
    rw [h1] at e1;rw [h3] at e2
    simp at e1 e2
    rw [e1,e2];exact e3
   refine ⟨X7 hi.1,hi.2.1,hi.2.2,λhc=>?_,λhc=>?_⟩
   ·have:=both (by rw [hc];rfl)
    simp only [GP,cQ] at this
    exact this.1
   ·have:=both (by rw [hc];simp)
    simp only [GP,cQ] at this
    exact this.2
 ·intro i hi
  have:(Array.replicate ops.size false).getD i true=false:=by simp [hi]
  simp only [this,true_iff]
  have hm:i∈(((items ops.toList s.b.length).zip fs).map (·.1)).map (·.1):=by rw [DU,uX];simpa using hi
  obtain ⟨z,hz,rfl⟩:=jS.1 hm
  obtain ⟨x,hx,rfl⟩:=jS.1 hz
  exact ⟨x,hx,rfl⟩
 ·intro i
  by_cases hi:i < ops.size
  ·right;left;simp [hi]
  ·right;right;omega
 ·intro i o e ho hl
  exfalso
  by_cases hi:i < ops.size
  ·simp [hi] at hl
  ·simp [hi] at hl
end
def GQ (S:List SV) (r:Bool) (P:Program) (c:Code) (s:St) (k:Exit->St->Prop):Prop :=
 ∀(F:Fence),RF r F->∀(f:Fr) (η:Nat->Value) (H:bB) (a:Act) (w:World),f.sS=S->Den f s η H a w->c.wpIn F 0 P (pJ r f k) a w
structure Sat (S:List SV) (r:Bool) (P:Unit->Program) (c:Code) (s:St) (k:Exit->St->Prop):Prop where
 out:GQ S r (P ()) c s k
inductive Task where
 | fn (fid:FuncId) (fn:Func)
 | KM (l:Nat)
abbrev pK:=List SV->Task->List SV->List Slot->(List Slot->SV->Prop)->Prop
def NG (ops:List Oper) (o:Oper) (s:St) (act skip:St->Prop):Prop :=
 match wL ops o with
 | none=>act s
 | some (none,_)=>False
 | some (some g,want)=>match s.t[g]? with
  | some (.bc c)=>match c,want with
   | true,true=>act s
   | false,false=>act s
   | _,_=>skip s
  | some (.b x)=>match want with
   | true=>(zB x->act { s with t:=s.t.set g (.bc true) })/\(zC x->skip { s with t:=s.t.set g (.bc false) })
   | false=>(zB x->skip { s with t:=s.t.set g (.bc true) })/\(zC x->act { s with t:=s.t.set g (.bc false) })
  | some (.nb d p)=>match d,want with
   | true,true=>(Hyp p->act { s with t:=s.t.set g (.bc true) })/\skip { s with t:=s.t.set g (.bc false) }
   | false,true=>act { s with t:=s.t.set g (.bc true) }/\(Hyp p->skip { s with t:=s.t.set g (.bc false) })
   | true,false=>(Hyp p->skip { s with t:=s.t.set g (.bc true) })/\act { s with t:=s.t.set g (.bc false) }
   | false,false=>skip { s with t:=s.t.set g (.bc true) }/\(Hyp p->act { s with t:=s.t.set g (.bc false) })
  | some (.cS [])=>skip s
  | _=>False
def adm (X:Ctx) (s:St) (o:Oper):Option (FuncId × Func × List SV) :=
 match o.op with
 | .call c=>match c.callee with
  | .value g=>match ev s g with
   | .fn (.func f) first cap=>match X.sp f with
    | some _=>none
    | none=>match X.inl f with
     | some fn=>some (f,fn,first++c.args.toList.map (ev s)++cap)
     | none=>none
   | _=>none
  | _=>none
 | _=>none
def adn (s:St) (o:Oper):Option (Nat × List SV) :=
 match o.op with
 | .call c=>match c.callee with
  | .value g=>match ev s g with
   | .gP l=>some (l,c.args.toList.map (ev s))
   | _=>none
  | _=>none
 | _=>none
def ab4 (X:Ctx) (s:St) (o:Oper):Option (Bool × (Unit->Prop)) :=
 match o.op with
 | .binOp op t x y _=>match ev s x with
  | .own l=>match ev s y,s.b[l]?,X.tt t with
   | .cW,some (@Slot.dyn T e sz c xs),some i=>match i.d,op with
    | .sl _,.eql=>some (true,λ_=>xs ()=[])
    | .sl _,.neq=>some (false,λ_=>xs ()=[])
    | _,_=>none
   | _,_,_=>none
  | _=>none
 | _=>none
def ado (o:Oper) (s:St) (x:Operand) (str:Bool) (k:St->Prop):Prop :=
 match str with
 | true=>False
 | false=>match ev s x with
  | .ptr l 0=>match s.b[l]? with
   | some (@Slot.iter T kk c m seen cur) =>
    (Hyp (λ_=>∀n t,m () n=some t->n∈seen ())->k (s.jJ o.dst (.cS [.bc false]) [])) /\
     ∀(n:kk.T) (t:T),Hyp (λ_=>m () n=some t/\n∉seen ())->k (s.jJ o.dst (.cS (.bc true :: kk.sv n :: c t)) [(l,.iter kk c m (λ_=>seen ()++[n]) (some (n,t)))])
   | _=>False
  | _=>False
def w7 (X:Ctx) (call:pK) (S:List SV) (o:Oper) (l:Nat) (s:St) (k:St->Prop):Prop :=
 match o.op with
 | .next x str=>ado o s x str k
 | _=>match adm X s o with
  | some (fid,fn,args)=>call (s.t++S) (.fn fid fn) args s.b λb v=>k (({ s with b:=b }:St).jJ o.dst v [])
  | none=>match adn s o with
   | some (ji,args)=>call (.gP ji :: (s.t++S)) (.KM ji) args s.b λb v=>k (({ s with b:=b }:St).jJ o.dst v [])
   | none=>match ab4 X s o with
    | some (d,p)=>k (s.jJ o.dst (.nb d p) [])
    | none=>xX X o l s k
def J2 (X:Ctx) (call:pK) (S:List SV) (ops:List Oper):List Oper->St->(St->Prop)->Prop
 | [],s,k=>k s
 | o :: r,s,k=>NG ops o s
  (λs=>match gu o.op with
   | true=>w7 X call S o s.b.length { s with b:=s.b++[.un] } λs'=>J2 X call S ops r s' k
   | false=>w7 X call S o 0 s λs'=>J2 X call S ops r s' k)
  (λs=>sQ o s λs'=>J2 X call S ops r s' k)
def codeOk:Code->Bool
 | .region _ ops draw=>u9 ops.toList&&(!draw||Sl ops.toList)
 | .seq x y=>codeOk x&&codeOk y
 | .cond _ x y=>codeOk x&&codeOk y
 | .block _ x=>codeOk x
 | .loop x=>codeOk x
 | .scope x=>codeOk x
 | .rangeFunc _ _ x y=>codeOk x&&codeOk y
 | _=>true
def mZ (fn:Func):Bool:=match fn.body with
 | some c=>codeOk c
 | none=>false
def nO (X:Ctx):Prop:=∀f fn,X.inl f=some fn->mZ fn=true
def Bu (f:Fr) (k:List Slot->SV->Prop):Ending->World->Prop :=
 λe w'=>∃v b' η' H' xv,e=.returned v/\k b' xv/\Den f ⟨[],b'⟩ η' H' ⟨#[],[]⟩ w'/\rel η' (aW b') H' xv v
structure gw (S:List SV) (P:Unit->Program) (fid:FuncId) (args:List SV) (b:List Slot) (k:List Slot->SV->Prop):Prop where
 out:∀(f:Fr) (η:Nat->Value) (H:bB) (a:Act) (w:World),f.sS=S->f.dS=[]->Den f ⟨args,b⟩ η H a w->Calls (P ()) fid a.tmps w (Bu f k)
section
variable {P:Program} {X:Ctx} {f:Fr} {s:St} {η:Nat->Value} {H:bB} {a:Act} {w:World}
structure xJ (P:Program) (X:Ctx) (call:pK):Prop where
 fn:∀S fid fn args b k,X.inl fid=some fn->call S (.fn fid fn) args b k->∀(f:Fr) (η:Nat->Value) (H:bB) (a:Act) (w:World),f.sS=S->f.dS=[]->Den f ⟨args,b⟩ η H a w ->
  Calls P fid a.tmps w (Bu f k)
 KM:∀S l args b k,call (.gP l :: S) (.KM l) args b k->∀(f:Fr) (η:Nat->Value) (H:bB) (a:Act) (w:World),f.sS=.gP l :: S->f.dS=[]->Den f ⟨args,b⟩ η H a w ->
  ∃bl rec,η l=.pointer (some ⟨bl,0,none⟩)/\aW b l=.live/\w.heap[bl]?=some (.loop rec)/\a.tmps.size=rec.params.size /\
   ∀(r:Bool) (F:Fence),RF r F->RoundIn F 0 P bl rec.fn ((rec.params.zip a.tmps).foldl (λtmps (t,a)=>tmps.setIfInBounds t a) rec.tmps) rec.assign rec.body w (Bu f k)
theorem Zf (D:Den f s η H a w) {ops:Array Oper} {o:Oper} {act skip:St->Prop} (h:NG ops.toList o s act skip) :
  ∃s0,Den f s0 η H a w/\s0.b=s.b/\((Region.wanted o (yielded ops a.tmps)=true/\act s0)\/(Region.wanted o (yielded ops a.tmps)=false/\skip s0)):=by
 unfold NG wL at h
 cases hq:o.guard with
 | none =>
  rw [hq] at h
  exact ⟨s,D,rfl,.inl ⟨by simp [Region.wanted,hq],h⟩⟩
 | some p =>
  obtain ⟨j,want⟩:=p
  rw [hq] at h
  simp only at h
  cases th:(ops.toList[j]?).bind (·.dst) with
  | none=>rw [th] at h;exact h.elim
  | some g =>
   rw [th] at h
   simp only at h
   have hw:Region.wanted o (yielded ops a.tmps)=(yielded ops a.tmps j == some want):=by simp [Region.wanted,hq]
   have nZ:∀y,s.t[g]?=some y->yielded ops a.tmps j=match a.tmps.getD g undef with|.bool b=>some b|_=>none:=by
    intro y hy
    have kq:(ops[j]?).bind (·.dst)=some g:=by simpa using th
    unfold yielded
    rw [kq]
    simp only [Option.bind_some,ZX D hy]
    cases a.tmps.getD g undef<;>rfl
   split at h
   ·rename_i c hc
    have hr:=D.Dh g
    rw [hc] at hr
    simp only [u5,rel] at hr
    have hy:=nZ _ hc
    rw [hr] at hy
    simp only at hy
    rw [hw,hy]
    split at h
    ·exact ⟨s,D,rfl,.inl ⟨by simp,h⟩⟩
    ·exact ⟨s,D,rfl,.inl ⟨by simp,h⟩⟩
    ·rename_i n1 n2
     refine ⟨s,D,rfl,.inr ⟨?_,h⟩⟩
     cases c<;>cases want<;>simp_all
   ·rename_i x hx
    obtain ⟨D0,hr⟩:=D.guard hx (v:=.bc (x ())) rfl
    simp only [rel] at hr
    have hy:=nZ _ hx
    rw [hr] at hy
    simp only at hy
    rw [hw,hy]
    cases hb:x ()
    ·rw [hb] at D0
     split at h
     ·exact ⟨_,D0,rfl,.inr ⟨by simp,h.2 ⟨hb⟩⟩⟩
     ·exact ⟨_,D0,rfl,.inl ⟨by simp,h.2 ⟨hb⟩⟩⟩
    ·rw [hb] at D0
     split at h
     ·exact ⟨_,D0,rfl,.inl ⟨by simp,h.1 ⟨hb⟩⟩⟩
     ·exact ⟨_,D0,rfl,.inr ⟨by simp,h.1 ⟨hb⟩⟩⟩
   ·rename_i d p hx
    obtain ⟨c,hr,hp⟩:=D.ab2 hx
    have rh:a.tmps.getD g undef=.bool c:=hr
    have D0:=D.ab3 hx (v:=.bc c) (by simp only [rel];exact hr)
    have hy:=nZ _ hx
    rw [rh] at hy
    simp only at hy
    rw [hw,hy]
    split at h<;>cases c
    ·exact ⟨_,D0,rfl,.inr ⟨by simp,h.2⟩⟩
    ·exact ⟨_,D0,rfl,.inl ⟨by simp,h.1 ⟨hp rfl⟩⟩⟩
    ·exact ⟨_,D0,rfl,.inr ⟨by simp,h.2 ⟨hp rfl⟩⟩⟩
    ·exact ⟨_,D0,rfl,.inl ⟨by simp,h.1⟩⟩
    ·exact ⟨_,D0,rfl,.inl ⟨by simp,h.2⟩⟩
    ·exact ⟨_,D0,rfl,.inr ⟨by simp,h.1 ⟨hp rfl⟩⟩⟩
    ·exact ⟨_,D0,rfl,.inl ⟨by simp,h.2 ⟨hp rfl⟩⟩⟩
    ·exact ⟨_,D0,rfl,.inr ⟨by simp,h.1⟩⟩
   ·rename_i hx
    have hr:=D.Dh g
    rw [hx] at hr
    simp only [u5,rel] at hr
    obtain ⟨vs,h1,_⟩:=hr
    have hy:=nZ _ hx
    rw [h1] at hy
    simp only at hy
    rw [hw,hy]
    exact ⟨s,D,rfl,.inr ⟨by simp,h⟩⟩
   ·exact h.elim
theorem Den.aex (D:Den f s η H a w) {args:List SV} {vals:List Value} (h:aQ η (aW s.b) H args vals) :
  Den { f with sS:=s.t++f.sS,sV:=a.tmps.toList++f.sV,dS:=[] } ⟨args,s.b⟩ η H ⟨vals.toArray,[]⟩ w:={
 t:=h
 sv:=iP D.t D.sv
 d:=rfl
 h0:=D.h0
 hw:=D.hw
 fw:=D.fw
 hf:=D.hf
 sl:=D.sl
 dj:=D.dj
 dh:=D.dh
 os:=D.os
 tape:=D.tape
 out:=D.out }
theorem Den.adp (D:Den f s η H a w) {b':List Slot} {η':Nat->Value} {H':bB} {a':Act} {w':World} (D2:Den { f with sS:=s.t++f.sS,sV:=a.tmps.toList++f.sV,dS:=[] } ⟨[],b'⟩ η' H' a' w') :
  Den f { s with b:=b' } η' H' a w':=by
 have zM:=FC (s:=s.t) (s':=f.sS) D2.sv
 have hlen:s.t.length=a.tmps.toList.length:=(jn D.t).symm
 have e1:(a.tmps.toList++f.sV).take s.t.length=a.tmps.toList:=by rw [hlen];exact FL
 have e2:(a.tmps.toList++f.sV).drop s.t.length=f.sV:=by rw [hlen];exact List.drop_left
 simp only at zM
 rw [e1,e2] at zM
 exact {
  t:=zM.1
  sv:=zM.2
  d:=D.d
  h0:=D2.h0
  hw:=D2.hw
  fw:=D2.fw
  hf:=D2.hf
  sl:=D2.sl
  dj:=D2.dj
  dh:=D2.dh
  os:=D2.os
  tape:=D2.tape
  out:=D2.out }
theorem Den.adq (D:Den f s η H a w) {l:Nat} {y:Value} (hy:rel η (aW s.b) H (.gP l) y) {args:List SV} {vals:List Value} (h:aQ η (aW s.b) H args vals) :
  Den { f with sS:=.gP l :: (s.t++f.sS),sV:=y :: (a.tmps.toList++f.sV),dS:=[] } ⟨args,s.b⟩ η H ⟨vals.toArray,[]⟩ w :=
 { D.aex h with sv:=by simp only [aQ];exact ⟨_,_,rfl,hy,iP D.t D.sv⟩ }
theorem Den.ab5 (D:Den f s η H a w) {l:Nat} {y:Value} {b':List Slot} {η':Nat->Value} {H':bB} {a':Act} {w':World} (D2:Den { f with sS:=.gP l :: (s.t++f.sS),sV:=y :: (a.tmps.toList++f.sV),dS:=[] } ⟨[],b'⟩ η' H' a' w') :
  Den f { s with b:=b' } η' H' a w'/\rel η' (aW b') H' (.gP l) y:=by
 have h:=D2.sv
 simp only [aQ] at h
 obtain ⟨_,_,e,h1,h2⟩:=h
 simp at e
 obtain ⟨rfl,rfl⟩:=e
 exact ⟨D.adp { D2 with sv:=h2 },h1⟩
theorem ajC {o:Oper} {c:Call} {g:Operand} {bl:Nat} {rec:Loop} (ho:o.op=.call c) (hg:c.callee=.value g) (hv:a.eval g=.func (.yield bl) #[] #[]) (hl:w.heap[bl]?=some (.loop rec))
  (hs:(c.args.map a.eval).size=rec.params.size) :
  (execOp a.eval o).run P w=.ok (.round bl rec.fn ((rec.params.zip (c.args.map a.eval)).foldl (λtmps (t,a)=>tmps.setIfInBounds t a) rec.tmps) rec.assign rec.body) w:=by
 unfold execOp
 simp only [ho,resolve,hg,hv,Deferred.ofValue,Sem.run_bind,Sem.run_pure,Result.andThen_ok,invoke]
 have:(#[]++Array.map a.eval c.args:Array Value)=Array.map a.eval c.args:=by simp
 rw [this]
 exact run_yield hl hs
theorem FU (C:X.Ok P) (I:nO X) {call:pK} (CO:xJ P X call) {r:Bool} {F:Fence} (R:RF r F) (D:Den f s η H a w) {o:Oper} {l:Nat} (hl:SK o l s) (hs:Ga o) (gC:wy o.op=false)
  {k:St->Prop} (h:w7 X call f.sS o l s k) {Q:Exit->Act->World->Prop} {K:Act->World->Prop} (hK:∀s' η' H' a' w',Den f s' η' H' a' w'->k s'->K a' w'):o.wpIn F 0 P a w K Q:=by
 unfold w7 at h
 split at h
 ·rename_i x str ho
  unfold ado at h
  split at h
  ·exact h.elim
  split at h<;>try exact h.elim
  rename_i l' ex
  split at h<;>try exact h.elim
  rename_i T kk c m seen cur uC
  exact zg R gC (anI D x ho ex uC (λeZ=>h.1 ⟨eZ⟩) (λn t h1 h2=>h.2 n t ⟨⟨h1,h2⟩⟩) hK)
 split at h
 ·rename_i fid fn args dz
  unfold adm at dz
  split at dz<;>try (cases dz;done)
  rename_i c ho
  split at dz<;>try (cases dz;done)
  rename_i g hg
  split at dz<;>try (cases dz;done)
  rename_i aCA first cap hv
  split at dz<;>try (cases dz;done)
  split at dz<;>try (cases dz;done)
  rename_i fn' o8
  simp only [rI,Prod.mk.injEq] at dz
  obtain ⟨rfl,rfl,rfl⟩:=dz
  have G:=C.inl _ _ o8
  have rf:=D.ev g
  rw [hv] at rf
  simp only [rel] at rf
  obtain ⟨fs,cs,h1,h2,h3⟩:=rf
  have nN:aQ η (aW s.b) H (first++c.args.toList.map (Vc.ev s)++cap) (fs++c.args.toList.map a.eval++cs):=iP (iP h2 (D.Eu _)) h3
  have iH:=YZ (P:=P) G ho hg h1 w
  have hc:=CO.fn _ _ _ _ _ _ o8 h _ η H _ w rfl rfl (D.aex nN)
  refine zg R gC ?_
  unfold Oper.wp
  rw [iH]
  simp only [Oper.upon]
  refine hc.mono λe w' ⟨v,b',η',H',xv,he,hk,D2,hr⟩=>?_
  subst he
  simp only
  exact hK _ η' H' _ w' ((D.adp D2).put o.dst hr) hk
 ·split at h
  ·rename_i ji args dz
   unfold adn at dz
   split at dz<;>try (cases dz;done)
   rename_i c ho
   split at dz<;>try (cases dz;done)
   rename_i g hg
   split at dz<;>try (cases dz;done)
   rename_i aCB hv
   simp only [rI,Prod.mk.injEq] at dz
   obtain ⟨rfl,rfl⟩:=dz
   have rf:=D.ev g
   rw [hv] at rf
   have nN:aQ η (aW s.b) H (c.args.toList.map (Vc.ev s)) (c.args.toList.map a.eval):=D.Eu _
   obtain ⟨bl,rec,hb,hq,arv,fv,ab6⟩:=CO.KM _ _ _ _ _ h _ η H _ w rfl rfl (D.adq rf nN)
   simp only [rel,hq] at rf
   obtain ⟨lC,e1,e2⟩:=rf
   rw [hb] at e1
   simp at e1
   subst e1
   have pF:(c.args.toList.map a.eval).toArray=c.args.map a.eval:=by apply mY;simp
   simp only [pF] at fv ab6
   have iH:=ajC (P:=P) ho hg e2 arv fv
   refine ⟨λg _=>R.fn g,?_⟩
   rw [Oper.semAt_eq _ _ _ (λc e=>by rw [e] at gC;cases gC),iH,Oper.uponIn_round]
   refine ⟨R.nd,(ab6 r F R).mono λe w' ⟨v,b',η',H',xv,he,hk,D2,hr⟩=>?_⟩
   subst he
   exact hK _ η' H' _ w' ((D.ab5 D2).1.put o.dst hr) hk
  ·split at h
   ·rename_i d p dz
    unfold ab4 at dz
    split at dz<;>try (cases dz;done)
    rename_i op t x y t' ho
    split at dz<;>try (cases dz;done)
    rename_i lo ex
    split at dz<;>try (cases dz;done)
    rename_i T e sz c xs i ey gR hi
    have hd:=(C.tt _ _ hi).desc
    have hx:=D.ev x
    have hy:=D.ev y
    rw [ex] at hx
    rw [ey] at hy
    simp only [rel,cv gR,Slot.live] at hx hy
    obtain ⟨hx,ad,n,cp,wY⟩:=hx
    have aey:ad=none->xs ()=[]:=by
     rintro rfl
     obtain ⟨vals,h1,_⟩:=D.sl lo _ gR
     rw [<-hx,wY] at h1
     have h0:(xs ()).length=0:=by
      rcases h1 with ⟨h1,_⟩|⟨_,h1,_⟩
      ·rcases h1.2 with h1|⟨g,cap,cur,h1,_⟩
       ·simp_all
       ·cases h1
      ·exact h1
     exact iF h0
    have fin:∀(r:Bool),(execOp a.eval o).run P w=.ok (.value (.bool r)) w->(r=d->p ())->o.wpIn F 0 P a w K Q:=by
     intro r iH hp
     refine zg R gC ?_
     unfold Oper.wp
     rw [iH]
     exact hK _ η H _ w (Den.put D o.dst (x:=.nb d p) (by simp only [rel];exact ⟨r,rfl,hp⟩)) h
    split at dz<;>try (cases dz;done)
    ·rename_i e' zJ
     rw [zJ] at hd
     simp only [rI,Prod.mk.injEq] at dz
     obtain ⟨rfl,rfl⟩:=dz
     refine fin ad.isNone ?_ (λe=>aey (by simpa using e))
     simp [execOp,ho,wY,hy,eqGuard,binOp,QG hd ad none n cp 0 0 (.inr rfl)]
    ·rename_i e' zJ
     rw [zJ] at hd
     simp only [rI,Prod.mk.injEq] at dz
     obtain ⟨rfl,rfl⟩:=dz
     refine fin (!ad.isNone) ?_ (λe=>aey (by simpa using e))
     simp [execOp,ho,wY,hy,eqGuard,binOp,QG hd ad none n cp 0 0 (.inr rfl)]
   obtain ⟨s',h1,h2⟩:=(AS X o l s k).1 h
   obtain ⟨x,u,h3,rfl⟩:=h1
   have:=RO (R:=λx' u'=>x'=x/\u'=u) C D (l:=l) hl hs ((eN.N7 _ _).2 ⟨x,u,h3,rfl,rfl⟩)
   obtain ⟨x',u',⟨rfl,rfl⟩,zN⟩:=this
   exact zg R gC (zN K Q λη' H' w' v D'=>hK _ η' H' _ w' D' h2)
theorem Mw (C:X.Ok P) (I:nO X) {call:pK} (CO:xJ P X call) {r0:Bool} {F:Fence} (R:RF r0 F) {ops:Array Oper} (cH:u9 ops.toList=true)
  {Q:Exit->Act->World->Prop} {k:St->Prop} (hk:∀s' η' H' a' w',Den f s' η' H' a' w'->k s'->Q .normal a' w') :
  ∀(r:List Oper) (i:Nat) {s:St} {η:Nat->Value} {H:bB} {a:Act} {w:World},(∀j,r[j]?=ops[i+j]?)->Den f s η H a w->J2 X call f.sS ops.toList r s k->wpOpsIn F 0 P ops Q (List.range' i r.length) a w
 | [],i,s,η,H,a,w,_,D,h=>hk s η H a w D h
 | o :: r,i,s,η,H,a,w,hr,D,h=>by
  have hi:ops[i]?=some o:=by simpa using (hr 0).symm
  have rh:∀j,r[j]?=ops[i+1+j]?:=λj=>by have:=hr (j+1);simpa [Nat.add_assoc,Nat.add_comm 1 j] using this
  have eZ:=jo.1 cH o (by simpa using xB hi)
  have vH:Ga o:=by
   intro he
   rw [he] at eZ
   simpa using eZ
  have gC:wy o.op=false:=by
   cases cH:sL o.op
   ·rw [cH] at eZ;simpa using eZ
   ·cases fC:o.op<;>rw [fC] at cH<;>first|rfl|cases cH
  simp only [qd,List.range'_succ]
  rw [wpOpsIn_cons]
  unfold wpOpIn
  rw [hi]
  simp only
  obtain ⟨s0,D0,hb,h|h⟩:=Zf D (ops:=ops) h
  ·rw [if_pos h.1]
   have h2:=h.2
   split at h2
   ·rename_i ri
    have D1:=D0.ext 1
    refine FU C I CO R (s:={ s0 with b:=s0.b++[.un] }) D1 (λ_=>by simp) vH gC h2 λs' η' H' a' w' D' gQ=>?_
    exact Mw C I CO R cH hk r (i+1) rh D' gQ
   ·rename_i ri
    refine FU C I CO R D0 (λha=>by rw [ri] at ha;cases ha) vH gC h2 λs' η' H' a' w' D' gQ=>?_
    exact Mw C I CO R cH hk r (i+1) rh D' gQ
  ·rw [if_neg (by rw [h.1];simp)]
   have h2:=h.2
   unfold sQ at h2
   exact ⟨λg _=>R.fn g,Mw C I CO R cH hk r (i+1) rh (D0.put o.dst (x:=.cS []) (by simp only [rel];exact ⟨[],rfl,by simp [aQ]⟩)) h2⟩
end
end Go.Vc
