import Derived.Test.YthnhbemmlfaihaaGreatT6
import Derived.RangeFuncRecord
import Derived.OrdersIn
import Derived.LoopNIn
import Derived.Deep.LoopGhost
set_option linter.unusedVariables false
set_option linter.unusedSimpArgs false
set_option maxRecDepth 10000
set_option maxHeartbeats 64000000
namespace Go.Vc
open Go
def kV (X:Ctx) (ops:List Oper):List (Oper × Nat)->St->(St->Prop)->Prop
 | [],s,k=>k s
 | (o,l) :: r,s,k=>PB X ops o l s λs'=>kV X ops r s' k
def fx:List Oper->Nat->List (Oper × Nat)
 | [],_=>[]
 | o :: r,n=>(o,n) :: fx r (match ij o.op with|true=>n+1|false=>n)
def rG:List Oper->Nat
 | []=>0
 | o :: r=>(match ij o.op with|true=>1|false=>0)+rG r
def jC:Nat->List Slot
 | 0=>[]
 | n+1=>.un :: jC n
def apm (X:Ctx) (ops:List Oper) (s:St) (k:St->Prop):Prop :=
 kV X ops (fx ops s.b.length) { s with b:=s.b++jC (rG ops) } k
def y8:Op->Bool
 | .defer _=>true
 | _=>false
def xI (ops:List Oper):Bool:=ops.all λo=>match ve o.op with|true=>o.dst.isNone|false=>!y8 o.op
def RF (r:Bool) (F:Fence):Prop:=match r with
 | false=>F=Fence.wide
 | true=>∃l,F=Fence.wide.inRound l
section arG
variable {P:Program} {r:Bool} {F:Fence}
theorem RF.fn (R:RF r F) (g:FuncId):F.fn g:=by
 cases r
 ·have R:F=_:=R;subst R;trivial
 ·obtain ⟨l,rfl⟩:=R;trivial
theorem RF.depth (R:RF r F):F.depth=none:=by
 cases r
 ·have R:F=_:=R;subst R;rfl
 ·obtain ⟨l,rfl⟩:=R;rfl
theorem RF.calls (R:RF r F) {n:Nat} {g:FuncId} {args:Array Value} {w:World} {K:Ending->World->Prop} (h:Calls P g args w K):CallsIn F n P g args w K:=by
 have h':CallsIn Fence.wide n P g args w K:=callsIn_wide.2 h
 cases r
 ·have R:F=_:=R;subst R;exact h'
 ·obtain ⟨l,rfl⟩:=R;exact h'
theorem RF.rows (R:RF r F) {n:Nat} {row:String} {args:Array Value} {w:World} {K:Value->World->Prop} (h:Rows P row args w K):RowsIn F n P row args w K:=by
 have h':RowsIn Fence.wide n P row args w K:=λc cs _=>by
  obtain ⟨v,w',h1,h2⟩:=h c cs
  exact ⟨v,w',h1,stepsIn_wide.2 h2⟩
 cases r
 ·have R:F=_:=R;subst R;exact h'
 ·obtain ⟨l,rfl⟩:=R;exact h'
theorem RF.nd (R:RF r F) {n:Nat}:F.depth.isSome=true->1<=n:=λh=>by rw [R.depth] at h;cases h
theorem A6 (R:RF r F) {o:Oper} (gG:y8 o.op=false) {a:Act} {w:World} {K:Act->World->Prop} {Q:Exit->Act->World->Prop} (h:o.wp P a w K Q):o.wpIn F 0 P a w K Q:=by
 refine ⟨λg _=>R.fn g,?_⟩
 rw [Oper.semAt_eq _ _ _ (λc e=>by rw [e] at gG;cases gG)]
 unfold Oper.wp at h
 generalize (execOp a.eval o).run P w=z at *
 cases z with
 | ok x w' =>
  cases x<;>simp only [Oper.upon,Oper.uponIn] at h ⊢<;>first|exact h|exact ⟨R.nd,R.calls h⟩|exact ⟨R.nd,R.rows h⟩|exact h.elim
 | halt x w'=>cases x<;>simp only [Oper.upon,Oper.uponIn] at h ⊢<;>exact h
theorem O9 (R:RF r F) {ops:Array Oper} {Q:Exit->Act->World->Prop} (hs:xI ops.toList=true) (hQ:¬LetsOut Q):∀(l:List Nat) (a:Act) (w:World),wpOps P ops Q l a w->wpOpsIn F 0 P ops Q l a w
 | [],a,w,h=>h
 | i :: l,a,w,h=>by
  rw [wpOps_cons] at h
  rw [wpOpsIn_cons]
  unfold wpOp at h
  unfold wpOpIn
  cases ho:ops[i]? with
  | none=>rw [ho] at h;exact O9 R hs hQ l a w h
  | some o =>
   rw [ho] at h
   simp only at h ⊢
   by_cases hw:Region.wanted o (yielded ops a.tmps)=true
   ·rw [if_pos hw] at h ⊢
    rcases h with h|h
    ·refine Oper.wpIn_mono (λa w h=>O9 R hs hQ l a w h) (A6 R ?_ h)
     have:=m8.1 hs o (by simpa using Az ho)
     cases cI:ve o.op
     ·rw [cI] at this;simpa using this
     ·cases fg:o.op<;>rw [fg] at cI<;>first|rfl|cases cI
    ·exact absurd h.2 hQ
   ·rw [if_neg hw] at h ⊢
    exact ⟨λg _=>R.fn g,O9 R hs hQ l _ w h⟩
end arG
theorem Pa:∀n,jC n=List.replicate n .un
 | 0=>rfl
 | n+1=>by rw [jC,Pa n];rfl
section
variable {P:Program} {X:Ctx} {f:Fr} {s:St} {η:Nat->Value} {H:bR} {a:Act} {w:World}
theorem apn (b:List Slot) (n l:Nat):bg (b++jC n) l=bg b l:=by
 unfold bg
 by_cases h:l < b.length
 ·rw [nY h]
 ·rw [u4 (by omega),Pa,Hd,mA (by omega)]
  split<;>rename_i e
  ·split at e
   ·simp at e;subst e;rfl
   ·cases e
  ·rfl
theorem Den.ext (D:Den f s η H a w) (n:Nat):Den f { s with b:=s.b++jC n } η H a w:=by
 have hq:bg (s.b++jC n)=bg s.b:=funext λl=>apn s.b n l
 exact { D with
  t:=by rw [hq];exact D.t
  sv:=by rw [hq];exact D.sv
  sl:=λl x hx=>by
   rw [hq]
   by_cases h:l < s.b.length
   ·rw [nY h] at hx;exact D.sl l x hx
   ·rw [u4 (by omega),Pa,Hd] at hx
    split at hx
    ·simp at hx;subst hx;trivial
    ·cases hx
  dj:=by rw [hq];exact D.dj
  dh:=by rw [hq];exact D.dh }
structure mG (ops:Array Oper) (s:St) (L:List (Nat × Oper × Nat)):Prop where
 get:∀x∈L,ops[x.1]?=some x.2.1
 store:∀x∈L,Kh x.2.1
 un:∀x∈L,ij x.2.1.op=true->s.b[x.2.2]?=some .un
 ji:L.Pairwise λx y=>ij x.2.1.op=true->ij y.2.1.op=true->x.2.2≠y.2.2
def ol (L:List (Nat × Oper × Nat)):List (Oper × Nat):=L.map (·.2)
theorem mG.tail {ops:Array Oper} {x:Nat × Oper × Nat} {L:List (Nat × Oper × Nat)} (W:mG ops s (x :: L)) {s1:St} (h:Out X ops.toList x.2.1 x.2.2 s s1):mG ops s1 L where
 get y hy:=W.get y (by simp [hy])
 store y hy:=W.store y (by simp [hy])
 un y hy ha:=aql h (W.un y (by simp [hy]) ha) λhx=>(lX.1 W.ji).1 y hy hx ha
 ji:=(lX.1 W.ji).2
theorem uZ {ops:List Oper} {x:Oper × Nat} {L:List (Oper × Nat)} {k:St->Prop}:kV X ops (x :: L) s k↔∃s',Out X ops x.1 x.2 s s'/\kV X ops L s' k:=by
 obtain ⟨o,l⟩:=x
 exact abm X ops o l s _
theorem Kz (C:X.Ok P) {ops:Array Oper} {k:St->Prop} (x:Nat × Oper × Nat) (B:List (Nat × Oper × Nat)):∀(A:List (Nat × Oper × Nat)) {s:St} {Ks:Tmp->List Nat},Good f s->rK ops.toList Ks s->(∀y∈A++x :: B,wy ops.toList Ks y.2.1 y.2.2)->mG ops s (A++x :: B) ->
  (∀p∈A,xS ops.toList p.2.1 x.2.1)->kV X ops.toList (ol (A++x :: B)) s k->kV X ops.toList (ol (x :: A++B)) s k
 | [],s,_,_,_,_,_,_,h=>h
 | p :: A,s,Ks,G,FA,hK,W,hA,h=>by
  have mp:p.2.1∈ops.toList:=by have:=W.get p (by simp);exact Array.mem_toList_iff.2 (Az this)
  have mx:x.2.1∈ops.toList:=by have:=W.get x (by simp);exact Array.mem_toList_iff.2 (Az this)
  obtain ⟨s1,h1,h2⟩:=uZ.1 h
  have G1:=G.out C (W.get p (by simp)) (λha=>W.un p (by simp) ha) (W.store p (by simp)) h1
  have h3:=Kz C x B A G1 (FA.out mp (hK p (by simp)) (λf S h=>(C.sp f S h).lr) h1) (λy hy=>hK y (by simp only [Em,ez];exact .inr hy)) (W.tail h1) (λq hq=>hA q (by simp [hq])) h2
  obtain ⟨s2,h4,h5⟩:=uZ.1 h3
  have Lk:=(lX.1 W.ji).1 x (by simp)
  obtain ⟨IJ,h6,h7⟩:=swap G (hA p (by simp)).t ((hA p (by simp)).sep FA mp mx) ((hA p (by simp)).symm.sep FA mx mp) (λha=>W.un p (by simp) ha) (λha=>W.un x (by simp) ha) Lk h1 h4
  exact uZ.2 ⟨IJ,h6,uZ.2 ⟨s2,h7,h5⟩⟩
def so (acc:List Nat) (o:Oper):Nat :=
 o.after.toList.foldl (λm e=>if Region.binds .any e then m ||| (2^e.on) ||| acc.getD e.on 0 else m) 0
def PC (ops:List Oper):List Oper->List Oper->List Nat->Bool
 | [],_,_=>true
 | o :: r,pre,acc =>
  (o.after.toList.all λe=>!Region.binds .any e||Nat.blt e.on pre.length) &&
  (pre.zipIdx.all λp=>(so acc o).testBit p.2||indep ops p.1 o) &&
  PC ops r (pre++[o]) (acc++[so acc o])
def Ki (ops:List Oper):Bool:=PC ops ops [] []
def oL (ops:List Oper) (j i:Nat):Prop:=∀S:Nat->Prop,(∀r o e,ops[r]?=some o->S r->e∈o.after.toList->Region.binds .any e=true->S e.on) ->
 (∀o e,ops[i]?=some o->e∈o.after.toList->Region.binds .any e=true->S e.on)->S j
theorem T3 (acc:List Nat) (es:List Edge) (m0 j:Nat) (h:(es.foldl (λm e=>if Region.binds .any e then m ||| (2^e.on) ||| acc.getD e.on 0 else m) m0).testBit j=true) :
  m0.testBit j=true\/∃e∈es,Region.binds .any e=true/\(e.on=j\/(acc.getD e.on 0).testBit j=true):=by
 induction es generalizing m0 with
 | nil=>exact .inl h
 | cons e es ih =>
  simp only [vZ] at h
  rcases ih _ h with h|⟨e',h1,h2⟩
  ·split at h
   ·rename_i hb
    simp only [Nat.testBit_or,v5] at h
    rcases h with (h|h)|h
    ·exact .inl h
    ·exact .inr ⟨e,by simp,hb,.inl (by rw [Nat.testBit_two_pow] at h;simpa using h)⟩
    ·exact .inr ⟨e,by simp,hb,.inr h⟩
   ·exact .inl h
  ·exact .inr ⟨e',by simp [h1],h2⟩
structure Ordered (ops:List Oper):Prop where
 back:∀i o e,ops[i]?=some o->e∈o.after.toList->Region.binds .any e=true->e.on < i
 apart:∀i o j p,ops[i]?=some o->ops[j]?=some p->j < i->oL ops j i\/indep ops p o=true
theorem aaY (ops:List Oper):∀(r pre:List Oper) (acc:List Nat),ops=pre++r->acc.length=pre.length ->
  (∀i j,i < pre.length->(acc.getD i 0).testBit j=true->oL ops j i) ->
  PC ops r pre acc=true->(∀i o e,pre.length<=i->ops[i]?=some o->e∈o.after.toList->Region.binds .any e=true->e.on < i) /\
   ∀i o j p,pre.length<=i->ops[i]?=some o->ops[j]?=some p->j < i->oL ops j i\/indep ops p o=true
 | [],pre,acc,he,_,_,_=>by
  have hn:∀i o,pre.length<=i->ops[i]?=some o->False:=λi o hi ho=>by
   rw [he,N7,mA hi] at ho;cases ho
  exact ⟨λi o e hi ho=>(hn i o hi ho).elim,λi o j p hi ho=>(hn i o hi ho).elim⟩
 | o :: r,pre,acc,he,hl,hm,h=>by
  simp only [PC,er] at h
  obtain ⟨⟨h1,h2⟩,h3⟩:=h
  have iL:ops[pre.length]?=some o:=by rw [he];simp
  have KR:∀e,e∈o.after.toList->Region.binds .any e=true->e.on < pre.length:=by
   intro e gR hb
   have:=m8.1 h1 e gR
   rw [hb] at this
   simpa [G4] using this
  have E9:∀j,(so acc o).testBit j=true->oL ops j pre.length:=by
   intro j hj S hS hi
   rcases T3 acc o.after.toList 0 j hj with h|⟨e,h4,h5,h6⟩
   ·simp at h
   ·have Dm:=hi o e iL h4 h5
    rcases h6 with h6|h6
    ·rw [<-h6];exact Dm
    ·exact hm e.on j (KR e h4 h5) h6 S hS λo' e' jn gR me=>hS e.on o' e' jn Dm gR me
  have ih:=aaY ops r (pre++[o]) (acc++[so acc o]) (by rw [he];simp) (by simp [hl]) (λi j hi hj=>by
   simp at hi
   by_cases aR:i < pre.length
   ·refine hm i j aR ?_
    rw [ig,nY (by omega)] at hj
    rw [ig];exact hj
   ·have:i=pre.length:=by omega
    subst this
    refine E9 j ?_
    rw [ig,u4 (by omega)] at hj
    simpa [hl] using hj) h3
  simp only [gk,AG,AH] at ih
  refine ⟨λi o' e hi jn gR me=>?_,λi o' j p hi jn hp hj=>?_⟩
  ·by_cases qY:i=pre.length
   ·subst qY
    rw [iL] at jn;simp at jn;subst jn
    exact KR e gR me
   ·exact ih.1 i o' e (by omega) jn gR me
  ·by_cases qY:i=pre.length
   ·subst qY
    rw [iL] at jn;simp at jn;subst jn
    have fe:pre[j]?=some p:=by rw [he,nY hj] at hp;exact hp
    have:=m8.1 h2 (p,j) (by rw [Hb];simpa using fe)
    simp only [v5] at this
    exact this.imp (E9 j) id
   ·exact ih.2 i o' j p (by omega) jn hp hj
theorem aap {ops:List Oper} (h:Ki ops=true):Ordered ops:=by
 obtain ⟨h1,h2⟩:=aaY ops ops [] [] rfl rfl (λi j hi=>by simp at hi) h
 exact ⟨λi o e=>h1 i o e (cL _),λi o j p=>h2 i o j p (cL _)⟩
theorem adr (C:X.Ok P) {ops:Array Oper} (O:Ordered ops.toList) {Q:Exit->Act->World->Prop} {k:St->Prop} (hk:∀s' η' H' a' w',Den f s' η' H' a' w'->k s'->Q .normal a' w') :
  ∀(n:Nat) (L:List (Nat × Oper × Nat)) {dR:Array Bool} {Ks:Tmp->List Nat} {s:St} {η:Nat->Value} {H:bR} {a:Act} {w:World},L.length=n->mG ops s L->L.Pairwise (λx y=>x.1 < y.1) ->
   (∀i,i < ops.size->(dR.getD i true=false↔∃x∈L,x.1=i))->(∀i,dR.getD i false=true\/dR.getD i true=false\/ops.size<=i) ->
   (∀i o e,ops[i]?=some o->dR.getD i false=true->e∈o.after.toList->Region.binds .any e=true->dR.getD e.on false=true) ->
   rK ops.toList Ks s->(∀y∈L,wy ops.toList Ks y.2.1 y.2.2)->Den f s η H a w->kV X ops.toList (ol L) s k->wpAny P .any ops Q n dR a w:=by
 intro n
 induction n with
 | zero =>
  intro L dR Ks s η H a w hn W rQ nG gB A7 FA hK D h
  have:L=[]:=m6 hn
  subst this
  refine ⟨?_,hk s η H a w D h⟩
  rw [S2]
  intro i hi
  obtain ⟨h0,o,ho,_⟩:=mem_ready.1 hi
  have aR:=(js.1 ho).1
  obtain ⟨x,hx,_⟩:=(nG i aR).1 h0
  cases hx
 | succ n ih =>
  intro L dR Ks s η H a w hn W rQ nG gB A7 FA hK D h
  constructor
  ·intro hr
   cases L with
   | nil=>simp at hn
   | cons x L =>
    have hx:=W.get x (by simp)
    have aR:=(js.1 hx).1
    have:x.1∈Region.ready .any ops dR:=by
     refine mem_ready.2 ⟨(nG x.1 aR).2 ⟨x,by simp,rfl⟩,x.2.1,hx,λe he hb=>?_⟩
     have wE:=O.back x.1 x.2.1 e (by simpa using hx) (by simpa using he) hb
     rcases gB e.on with h1|h1|h1
     ·exact h1
     ·obtain ⟨y,hy,zS⟩:=(nG e.on (by omega)).1 h1
      rcases ez.1 hy with rfl|hy
      ·omega
      ·have:=(lX.1 rQ).1 y hy;omega
     ·omega
    rw [hr] at this
    cases this
  ·intro i hi
   obtain ⟨h0,o,ho,xT⟩:=mem_ready.1 hi
   have aR:=(js.1 ho).1
   obtain ⟨x,hx,rfl⟩:=(nG i aR).1 h0
   obtain ⟨A,B,rfl⟩:=GY hx
   have jo:=W.get x (by simp)
   rw [ho] at jo
   simp at jo
   have kg:=oA.1 rQ
   have hA:∀p∈A,xS ops.toList p.2.1 x.2.1:=by
    intro p hp
    have Bw:p.1 < x.1:=kg.2.2 p hp x (by simp)
    have oT:=W.get p (by simp [hp])
    rcases O.apart x.1 x.2.1 p.1 p.2.1 (by rw [<-jo];simpa using ho) (by simpa using oT) Bw with hF|hi
    ·
     have:=hF (λr=>dR.getD r false=true) (λr o' e hr hS he hb=>A7 r o' e (by simpa using hr) hS he hb)
      (λo' e jn he hb=>by
       have:o'=o:=by
        have h1:ops[x.1]?=some o':=by simpa using jn
        rw [ho] at h1;simpa using h1.symm
       subst this
       exact xT e (by simpa using he) hb)
     have nt:=(nG p.1 (js.1 oT).1).2 ⟨p,by simp [hp],rfl⟩
     have wF:p.1 < dR.size:=by
      rcases v8 p.1 dR.size with h|h
      ·exact h
      ·simp [He h] at this
     simp [wF] at this nt
     rw [this] at nt;cases nt
    ·exact NO hi
   have h2:=Kz C x B A ⟨η,H,a,w,D⟩ FA hK W hA h
   obtain ⟨s1,h3,h4⟩:=uZ.1 h2
   have nH:(A++x :: B).Perm (x :: (A++B)):=JO
   have W':mG ops s (x :: (A++B)):={
    get:=λy hy=>W.get y (nH.mem_iff.2 hy)
    store:=λy hy=>W.store y (nH.mem_iff.2 hy)
    un:=λy hy=>W.un y (nH.mem_iff.2 hy)
    ji:=(nH.pairwise_iff (λ{a b} h h1 h2=>(h h2 h1).symm)).1 W.ji }
   refine JU C D (by rw [ho,jo]) (λha=>W.un x (by simp) ha) (W.store x (by simp)) h3 λη' H' a' w' D'=>?_
   have Ll:x.1 < dR.size:=by
    rcases v8 x.1 dR.size with h|h
    ·exact h
    ·simp [He h] at h0
   have um:∀j (d:Bool),(dR.setIfInBounds x.1 true).getD j d=if x.1=j then true else dR.getD j d:=by
    intro j d
    by_cases hj:x.1=j
    ·subst hj;simp [Ll]
    ·rw [getD_set_ne d hj,if_neg hj]
   refine ih (A++B) (by simp at hn ⊢;omega) (W'.tail h3) ?_ ?_ ?_ ?_ (FA.out (Array.mem_toList_iff.2 (Az (W.get x (by simp)))) (hK x (by simp)) (λf S h=>(C.sp f S h).lr) h3) (λy hy=>hK y (nH.mem_iff.2 (by simp only [ez];exact .inr hy))) D' h4
   ·have:=kg
    exact oA.2 ⟨kg.1,(lX.1 kg.2.1).2,λp hp q hq=>kg.2.2 p hp q (by simp [hq])⟩
   ·intro j hj
    rw [um]
    by_cases jv:x.1=j
    ·subst jv
     simp only [if_true]
     refine ⟨λh=>(by cases h),λ⟨y,hy,Mi⟩=>?_⟩
     exfalso
     rcases List.mem_append.1 hy with hy|hy
     ·have:=kg.2.2 y hy x (by simp);omega
     ·have:=(lX.1 kg.2.1).1 y hy;omega
    ·rw [if_neg jv,nG j hj]
     constructor
     ·rintro ⟨y,hy,rfl⟩
      rcases List.mem_append.1 hy with hy|hy
      ·exact ⟨y,by simp [hy],rfl⟩
      ·rcases ez.1 hy with rfl|hy
       ·exact absurd rfl jv
       ·exact ⟨y,by simp [hy],rfl⟩
     ·rintro ⟨y,hy,rfl⟩
      rcases List.mem_append.1 hy with hy|hy
      ·exact ⟨y,by simp [hy],rfl⟩
      ·exact ⟨y,by simp [hy],rfl⟩
   ·intro j
    rw [um,um]
    by_cases jv:x.1=j
    ·simp [jv]
    ·rw [if_neg jv,if_neg jv];exact gB j
   ·intro j o' e hj hl he hb
    rw [um] at hl ⊢
    split at hl
    ·rename_i jv
     subst jv
     rw [ho] at hj;simp at hj;subst hj
     split
     ·rfl
     ·exact xT e (by simpa using he) hb
    ·split
     ·rfl
     ·exact A7 j o' e hj hl he hb
def PD (ops:List Oper) (K:Tmp->List Nat) (x:Tmp) (A:List Tmp):List Tmp->Bool
 | []=>true
 | y :: r=>(match mN ops 8 y with
  | none=>true
  | some B=>match x3 A B with
   | true=>x3 (K x) (K y)
   | false=>true)&&PD ops K x A r
def PE (ops:List Oper) (K:Tmp->List Nat) (x:Tmp) (A:List Tmp):List Oper->Bool
 | []=>true
 | j :: r=>(match iI j.op with
  | some ys=>(match ET ops A ys with
   | true=>PD ops K x A ys
   | false=>true)
  | none=>true)&&PE ops K x A r
def CU (ops:List Oper) (K:Tmp->List Nat):List Oper->Bool
 | []=>true
 | p :: r=>(match qn p.op with
  | true=>(match ly p.op with
   | some x=>(match mN ops 8 x with
    | none=>true
    | some A=>PE ops K x A ops)
   | none=>true)
  | false=>true)&&CU ops K r
theorem abw {ops:List Oper} {A:List Tmp}:∀{ys:List Tmp},(∀y∈ys,∃B,mN ops 8 y=some B/\x3 A B=true)->ET ops A ys=true
 | [],_=>rfl
 | y :: r,h=>by
  obtain ⟨B,h1,h2⟩:=h y (by simp)
  simp only [ET,h1,h2,JR]
  exact abw λz hz=>h z (by simp [hz])
theorem acv {ops:List Oper} {K:Tmp->List Nat} {x:Tmp} {A:List Tmp}:∀{ys:List Tmp},PD ops K x A ys=true->(∀y∈ys,∃B,mN ops 8 y=some B/\x3 A B=true)->∀y∈ys,∀l∈K x,l∉K y
 | [],_,_,y,hy=>by cases hy
 | z :: r,h,hd,y,hy=>by
  simp only [PD,er] at h
  rcases ez.1 hy with rfl|hy
  ·obtain ⟨B,h1,h2⟩:=hd y (by simp)
   have h3:=h.1
   simp only [h1,h2] at h3
   exact adn h3
  ·exact acv h.2 (λz hz=>hd z (by simp [hz])) y hy
theorem acw {ops:List Oper} {K:Tmp->List Nat} {x:Tmp} {A:List Tmp}:∀{r:List Oper},PE ops K x A r=true->∀j∈r,∀ys,iI j.op=some ys->(∀y∈ys,∃B,mN ops 8 y=some B/\x3 A B=true) ->
  ∀y∈ys,∀l∈K x,l∉K y
 | [],_,j,hj,_,_,_=>by cases hj
 | k :: r,h,j,hj,ys,hy,hd=>by
  simp only [PE,er] at h
  rcases ez.1 hj with rfl|hj
  ·have h1:=h.1
   rw [hy] at h1
   simp only [abw hd] at h1
   exact acv h1 hd
  ·exact acw h.2 j hj ys hy hd
theorem Kj {ops:List Oper} {K:Tmp->List Nat}:∀{r:List Oper},CU ops K r=true->∀p∈r,∀j∈ops,∀x ys,IH ops p j x ys->qn p.op=true->∀y∈ys,∀l∈K x,l∉K y
 | [],_,p,hp,_,_,_,_,_,_=>by cases hp
 | k :: r,h,p,hp,j,hj,x,ys,F,hw=>by
  simp only [CU,er] at h
  rcases ez.1 hp with rfl|hp
  ·have h1:=h.1
   rw [hw] at h1
   simp only [F.p] at h1
   obtain ⟨A,hA⟩:=F.ax
   rw [hA] at h1
   exact acw h1 j hj ys F.j (F.d A hA)
  ·exact Kj h.2 p hp j hj x ys F hw
def afC (ops:List Oper) (s:St):Bool:=CU ops (ta ops (fx ops s.b.length) s) ops
def items (ops:List Oper) (n:Nat):List (Nat × Oper × Nat):=(fx ops n).zipIdx.map λp=>(p.2,p.1.1,p.1.2)
theorem SJ:∀(ops:List Oper) (n:Nat),(fx ops n).length=ops.length
 | [],n=>rfl
 | o :: r,n=>by simp [fx,SJ r]
theorem T4:∀(ops:List Oper) (n i:Nat) (p:Oper × Nat),(fx ops n)[i]?=some p->ops[i]?=some p.1
 | [],n,i,p,h=>by simp [fx] at h
 | o :: r,n,0,p,h=>by simp [fx] at h;subst h;rfl
 | o :: r,n,i+1,p,h=>by simp only [fx,S6] at h ⊢;exact T4 r _ i p h
theorem Ux:∀(ops:List Oper) (n:Nat),∀p∈fx ops n,n<=p.2/\(ij p.1.op=true->p.2 < n+rG ops)
 | [],n,p,h=>by simp [fx] at h
 | o :: r,n,p,h=>by
  simp only [fx,ez] at h
  rcases h with rfl|h
  ·refine ⟨cR _,λha=>?_⟩
   simp only at ha
   simp only [rG,ha];omega
  ·have:=Ux r _ p h
   simp only [rG]
   cases hq:ij o.op<;>rw [hq] at this<;>simp only at this ⊢<;>exact ⟨by omega,λha=>by have:=this.2 ha;omega⟩
theorem abx:∀(ops:List Oper) (n:Nat),(fx ops n).Pairwise λx y=>ij x.1.op=true->ij y.1.op=true->x.2≠y.2
 | [],n=>by simp [fx]
 | o :: r,n=>by
  simp only [fx,lX]
  refine ⟨λy hy hx _=>?_,abx r _⟩
  rw [hx] at hy
  have:=(Ux r _ y hy).1
  simp only at this ⊢
  omega
theorem AK (ops:List Oper) (n:Nat):ol (items ops n)=fx ops n:=by
 unfold ol items
 rw [G3]
 apply n5
 intro i
 simp only [m7,List.getElem?_zipIdx]
 cases (fx ops n)[i]?<;>simp
theorem vV (ops:List Oper) (n:Nat):(items ops n).map (·.1)=List.range ops.length:=by
 unfold items
 rw [G3]
 apply n5
 intro i
 simp only [m7,List.getElem?_zipIdx]
 by_cases h:i < ops.length
 ·have h2:i < (fx ops n).length:=by rw [SJ];exact h
  simp [h,h2]
 ·have h2:(fx ops n).length<=i:=by rw [SJ];omega
  simp [h2,show ops.length<=i by omega]
theorem SU {ops:Array Oper} (hs:xI ops.toList=true) (s:St):mG ops { s with b:=s.b++jC (rG ops.toList) } (items ops.toList s.b.length):=by
 have mem:∀x∈items ops.toList s.b.length,(fx ops.toList s.b.length)[x.1]?=some x.2:=by
  intro x hx
  unfold items at hx
  obtain ⟨p,hp,rfl⟩:=kf.1 hx
  rw [Hb] at hp
  simpa using hp
 constructor
 ·intro x hx
  have:=T4 _ _ _ _ (mem x hx)
  simpa using this
 ·intro x hx he
  have:=T4 _ _ _ _ (mem x hx)
  have h2:=m8.1 hs x.2.1 (cb this)
  rw [he] at h2
  simpa using h2
 ·intro x hx ha
  have hg:=Ux ops.toList s.b.length x.2 (cb (mem x hx))
  have h2:=hg.2 ha
  simp only
  rw [u4 hg.1,Pa,Hd,if_pos (by omega)]
 ·unfold items
  rw [yW]
  have:((fx ops.toList s.b.length).zipIdx).Pairwise λx y=>ij x.1.1.op=true->ij y.1.1.op=true->x.1.2≠y.1.2:=by
   have h:=abx ops.toList s.b.length
   rw [<-List.zipIdx_map_fst 0 (fx ops.toList s.b.length),yW] at h
   exact h
  exact this
def wT (K:Act->World->Prop):Exit->Act->World->Prop
 | .normal,a,w=>K a w
 | _,_,_=>False
theorem Kl {K:Act->World->Prop}:¬LetsOut (wT K):=λ⟨_,_,h⟩=>h
end
structure Ext (r:Bool) (f f':Fr):Prop where
 h0:f'.H0=f.H0
 w0:f'.w0=f.w0
 sS:f'.sS=f.sS
 sV:f'.sV=f.sV
 gr:∃ms:List Nat,f'.dS=ms++f.dS/\ms.Nodup/\(∀D∈ms,f.F D=none/\f'.F D=some (.deferred (some []))/\f.H0 D=none)/\(∀b,b∉ms->f'.F b=f.F b)/\(r=true->ms=[])
theorem Ext.refl (r:Bool) (f:Fr):Ext r f f:=⟨rfl,rfl,rfl,rfl,[],rfl,Ep,λ_ h=>by simp at h,λ_ _=>rfl,λ_=>rfl⟩
theorem Ext.trans {r:Bool} {f g h:Fr} (a:Ext r f g) (b:Ext r g h):Ext r f h:=by
 obtain ⟨ms,a1,a2,a3,a4,a5⟩:=a.gr
 obtain ⟨ns,b1,b2,b3,b4,b5⟩:=b.gr
 have hd:∀D∈ns,D∉ms:=λD h1 h2=>by
  have:=(a3 D h2).2.1
  rw [(b3 D h1).1] at this;cases this
 refine ⟨b.h0.trans a.h0,b.w0.trans a.w0,b.sS.trans a.sS,b.sV.trans a.sV,ns++ms,by rw [b1,a1,Tg],?_,?_,?_,λhr=>by rw [b5 hr,a5 hr];rfl⟩
 ·rw [Ek]
  exact ⟨b2,a2,λx hx y hy e=>hd x hx (e ▸ hy)⟩
 ·intro D hD
  rcases List.mem_append.1 hD with h1|h1
  ·refine ⟨?_,(b3 D h1).2.1,by rw [<-a.h0];exact (b3 D h1).2.2⟩
   rw [<-a4 D (hd D h1)];exact (b3 D h1).1
  ·refine ⟨(a3 D h1).1,?_,(a3 D h1).2.2⟩
   rw [b4 D (λh2=>hd D h2 h1)];exact (a3 D h1).2.1
 ·intro b hb
  rw [b4 b (λh=>hb (Cg _ h)),a4 b (λh=>hb (Eu _ h))]
theorem Ext.eq {f f':Fr} (h:Ext true f f'):f'=f:=by
 obtain ⟨ms,a1,_,_,a4,a5⟩:=h.gr
 have:=a5 rfl
 subst this
 obtain ⟨F,H0,w0,sS,sV,dS⟩:=f
 obtain ⟨F',H0',w0',sS',sV',dS'⟩:=f'
 have e1:F'=F:=funext λb=>a4 b (by simp)
 have e2:=h.h0;have e3:=h.w0;have e4:=h.sS;have e5:=h.sV
 simp at a1 e2 e3 e4 e5
 subst e1;subst e2;subst e3;subst e4;subst e5;subst a1
 rfl
def sy (r:Bool) (f:Fr) (k:Exit->St->Prop):Exit->Act->World->Prop :=
 λe a' w'=>∃f' s' η' H',Ext r f f'/\Den f' s' η' H' a' w'/\k e s'
theorem sy.up {r:Bool} {f f':Fr} {k:Exit->St->Prop} (h:Ext r f f') {e:Exit} {a:Act} {w:World} (p:sy r f' k e a w):sy r f k e a w:=by
 obtain ⟨g,s',η',H',h1,h2,h3⟩:=p
 exact ⟨g,s',η',H',h.trans h1,h2,h3⟩
theorem sy.of {r:Bool} {f:Fr} {k:Exit->St->Prop} {e:Exit} {s:St} {η:Nat->Value} {H:bR} {a:Act} {w:World} (D:Den f s η H a w) (h:k e s):sy r f k e a w:=⟨f,s,η,H,Ext.refl r f,D,h⟩
theorem RF.inRound {r:Bool} {F:Fence} (R:RF r F) (l:Nat):RF true (F.inRound l):=by
 cases r
 ·have R:F=_:=R;subst R;exact ⟨l,rfl⟩
 ·obtain ⟨m,rfl⟩:=R;exact ⟨l,rfl⟩
section
variable {F:Fence} {n:Nat} {P:Program} {Q:Exit->Act->World->Prop} {a:Act} {w:World}
theorem alX {c:Code} (I:Nat->Act->World->Prop) (n₀:Nat) (h₀:I n₀ a w)
  (round:∀m a w,I m a w->c.wpIn F n P (Exit.then (λa' w'=>∃n',n' < m/\I n' a' w') Q) a w):(Code.loop c).wpIn F n P Q a w:=by
 refine wpIn_loop (λa w=>∃n,I n a w) (λa w=>leastOf (λn=>I n a w)) ⟨n₀,h₀⟩ ?_
 intro a w hI
 refine wpIn_mono (round _ a w (leastOf_spec hI).1) ?_
 intro e a' w' hq
 cases e with
 | normal =>
  obtain ⟨n',aR,Yf⟩:=hq
  exact show (∃n,I n a' w')/\leastOf (λn=>I n a' w') < leastOf (λn=>I n a w) from ⟨⟨n',Yf⟩,Nat.lt_of_le_of_lt ((leastOf_spec ⟨n',Yf⟩).2 n' Yf) aR⟩
 | exit id=>exact hq
 | goto l=>exact hq
 | ret=>exact hq
 | panic ch=>exact hq
 | outgrown=>exact hq
variable {b:Frame} {k:List Item} {cs:List Frame}
theorem GM {c:Code}:step P (lone (b.atR a (.code (.scope c) :: k)) cs w)=.next (lone (b.atR a (.code c :: .inScope c :: k)) cs w) :=
 step_lone_go (by simp [stepG,stepG.exec,Frame.atR])
theorem alY {c:Code}:step P (lone (b.atR a (.inScope c :: k)) cs w)=.next (lone (b.atR a k) cs w) :=
 step_lone_go (by simp [stepG,stepG.exec,Frame.atR])
theorem alR {c:Code} (h:c.wpIn F n P (Exit.noGoto Q) a w):(Code.scope c).wpIn F n P Q a w:=by
 intro b k cs wU hb hr
 have h0:(lone (b.atR a (.code (.scope c) :: k)) cs w).fenced P F:=fenced_calm hb hr rfl
 obtain ⟨e,a₁,w₁,hq,H7⟩:=h b (.inScope c :: k) cs wU hb hr
 cases e with
 | normal=>exact ⟨.normal,a₁,w₁,hq,.head h0 GM (StepsIn.trans H7 (.one (fenced_calm hb hr rfl) alY))⟩
 | exit id =>
  have hx:exitTo id (.inScope c :: k)=exitTo id k:=by simp [exitTo]
  exact ⟨.exit id,a₁,w₁,hq,λk' hk=>.head h0 GM (H7.1 k' (by rw [hx];exact hk)),
   λsO hk=>let ⟨k₁,h1,h2⟩:=H7.2 sO (by rw [hx];exact hk);⟨k₁,h1,.head h0 GM h2⟩⟩
 | goto l=>exact hq.elim
 | ret=>exact ⟨_,a₁,w₁,hq,.of_steps (.one h0 GM) H7⟩
 | panic ch=>exact ⟨_,a₁,w₁,hq,.of_steps (.one h0 GM) H7⟩
 | outgrown=>exact ⟨_,a₁,w₁,hq,.of_steps (.one h0 GM) H7⟩
end
def CG:List Nat->World->World
 | [],w=>w
 | D :: r,w=>CG r (w.putObj D (.deferred none))
theorem NJ:∀{ms:List Nat} {w:World} {b:Nat},b∉ms->(CG ms w).heap[b]?=w.heap[b]?
 | [],w,b,_=>rfl
 | D :: r,w,b,h=>by
  simp only [ez,not_or] at h
  simp only [CG]
  rw [NJ h.2,World.putObj_heap_other h.1]
theorem NP:∀(ms:List Nat) (w:World),(CG ms w).os=w.os/\(CG ms w).tape=w.tape/\(CG ms w).output=w.output
 | [],w=>⟨rfl,rfl,rfl⟩
 | D :: r,w=>NP r (w.putObj D (.deferred none))
theorem aaq {F:Fence} {n:Nat} {P:Program} {fn:Func} {tmps:Array Value} {R:Ending->World->Prop}:∀{ms:List Nat} {w:World},
  (∀D∈ms,w.heap[D]?=some (.deferred (some [])))->ms.Nodup->LeavesInM F n P fn tmps R [] .returning (CG ms w)->LeavesInM F n P fn tmps R (ms.map HJ) .returning w
 | [],w,_,_,h=>h
 | D :: r,w,hm,hn,h=>by
  rw [rB] at hn
  refine ⟨by simp,.inl ⟨D,w.putObj D (.deferred none),rfl,run_takeDeferred (hm D (by simp)),?_⟩⟩
  refine aaq (λD' h'=>?_) hn.2 h
  rw [World.putObj_heap_other (λe=>hn.1 (by rw [<-e];exact h'))]
  exact hm D' (by simp [h'])
section
variable {P:Program} {f f':Fr} {s:St} {η:Nat->Value} {H:bR} {a:Act} {w:World}
theorem Den.shut (E:Ext false f f') (hd:f.dS=[]) (D:Den f' s η H a w):∃ms,a.defers=ms.map HJ/\ms.Nodup/\(∀M∈ms,w.heap[M]?=some (.deferred (some []))) /\
  ∀ts,bd η (bg s.b) H s.t ts->Den f s η H ⟨ts.toArray,[]⟩ (CG ms w):=by
 obtain ⟨ms,a1,a2,a3,a4,_⟩:=E.gr
 rw [hd,N7] at a1
 have hF:∀b,f'.F b=none->b∉ms/\f.F b=none:=λb hb=>by
  by_cases h:b∈ms
  ·rw [(a3 b h).2.1] at hb;cases hb
  ·exact ⟨h,by rw [<-a4 b h];exact hb⟩
 have hFs:∀b o,f.F b=some o->b∉ms:=λb o hb h=>by rw [(a3 b h).1] at hb;cases hb
 have hHs:∀b o,H b=some o->b∉ms:=λb o hb h=>by
  rcases D.hf b (by rw [hb];simp) with h1|h1
  ·rw [E.h0] at h1;exact h1 (a3 b h).2.2
  ·rw [(a3 b h).2.1] at h1;cases h1
 refine ⟨ms,by rw [D.d,a1],a2,λM hM=>D.fw M _ (a3 M hM).2.1,λts ht=>?_⟩
 exact {
  t:=ht
  sv:=by rw [<-E.sS,<-E.sV];exact D.sv
  d:=by rw [hd];rfl
  h0:=by rw [<-E.h0];exact D.h0
  hw:=λb o hb=>by rw [NJ (hHs b o hb)];exact D.hw b o hb
  fw:=λb o hb=>by rw [NJ (hFs b o hb)];exact D.fw b o (by rw [a4 b (hFs b o hb)];exact hb)
  hf:=λb hb=>by
   rcases D.hf b hb with h1|h1
   ·rw [E.h0] at h1;exact .inl h1
   ·exact .inr (hF b h1).2
  sl:=λl x hx=>by
   have hs:=D.sl l x hx
   by_cases dZ:x.live=.live
   ·refine hs.kept (jJ.refl _ _) (bR.le.refl _) rfl λb hb=>?_
    exact NJ (hF b (D.dh l b (by rw [df hx];exact dZ) hb).2).1
   ·cases x with
    | un=>trivial
    | dead=>trivial
    | fix=>exact absurd rfl dZ
    | dyn=>exact absurd rfl dZ
    | map=>exact absurd rfl dZ
    | iter=>exact absurd rfl dZ
    | eV=>exact absurd rfl dZ
  dj:=D.dj
  dh:=λl b h1 h2=>⟨(D.dh l b h1 h2).1,(hF b (D.dh l b h1 h2).2).2⟩
  os:=by rw [(NP ms w).1,D.os,E.w0]
  tape:=by rw [(NP ms w).2.1,D.tape,E.w0]
  out:=by rw [(NP ms w).2.2,D.out,E.w0] }
theorem Den.mark (D:Den f s η H a w):Den { f with F:=λb=>if b=w.heap.size then some (.deferred (some [])) else f.F b,dS:=w.heap.size :: f.dS } s η H { a with defers:=HJ w.heap.size :: a.defers } (w.alloc (.deferred (some []))) /\
  Ext false f { f with F:=λb=>if b=w.heap.size then some (.deferred (some [])) else f.F b,dS:=w.heap.size :: f.dS }:=by
 have D1:=D.grown (World.grownBy_alloc w (.deferred (some [])) none)
 have ou:∀b o,w.heap[b]?=some o->b≠w.heap.size:=λb o h e=>by
  have:=(js.1 h).1
  omega
 have hF:f.F w.heap.size=none:=by
  cases h:f.F w.heap.size with
  | none=>rfl
  | some o=>exact absurd rfl (ou _ _ (D.fw _ _ h))
 have hH:H w.heap.size=none:=by
  cases h:H w.heap.size with
  | none=>rfl
  | some o=>exact absurd rfl (ou _ _ (D.hw _ _ h))
 have Yg:f.H0 w.heap.size=none:=by
  cases h:f.H0 w.heap.size with
  | none=>rfl
  | some o=>have:=D.h0 _ _ h;rw [hH] at this;cases this
 refine ⟨{ D1 with
  d:=by simp [D.d]
  fw:=λb o h=>by
   simp only at h
   split at h
   ·rename_i e;subst e;cases h;exact World.alloc_heap_new w _
   ·exact D1.fw b o h
  hf:=λb hb=>by
   rcases D1.hf b hb with h|h
   ·exact .inl h
   ·right
    simp only
    rw [if_neg ?_];exact h
    intro e;subst e;exact hb hH
  dh:=λl b h1 h2=>by
   have:=D1.dh l b h1 h2
   refine ⟨this.1,?_⟩
   simp only
   rw [if_neg ?_];exact this.2
   intro e
   have:=D.EC h1 h2
   omega
  os:=D1.os,tape:=D1.tape,out:=D1.out },rfl,rfl,rfl,rfl,[w.heap.size],rfl,by simp,?_,?_,λh=>by cases h⟩
 ·intro M hM
  simp at hM;subst hM
  exact ⟨hF,by simp,Yg⟩
 ·intro b hb
  simp at hb
  simp [hb]
theorem Den.Qm (D:Den f s η H a w) {l bl:Nat} {x y:Slot} (hx:s.b[l]?=some x) (Q5:x.live=.live) (hy:y.live=.live) (hb:dt (η l)=some bl) (o:Obj)
  (cv:jJ η η (bg s.b) (bg (s.b.set l y))->lh η (bg (s.b.set l y)) H (w.putObj bl o) l y):Den f { s with b:=s.b.set l y } η H a (w.putObj bl o):=by
 have hq:bg s.b l=.live:=by rw [df hx];exact Q5
 exact D.change (w':=w.putObj bl o) (η':=η) (l:=l) (x:=y) none rfl (λ_ _=>rfl) (.inr ⟨hq,rfl,rfl⟩) hy (λ_ h=>by cases h) (some bl) (SH w bl o)
  (λk hk=>by cases hk;exact .inr ⟨hq,hb⟩) (λb me=>.inr (.inr ⟨hq,me⟩)) cv
theorem Den.drop (D:Den f s η H a w) {l bl:Nat} (hq:bg s.b l=.live) (hb:dt (η l)=some bl) (o:Obj):Den f { s with b:=s.b.set l .dead } η H a (w.putObj bl o):=by
 obtain ⟨x,hx,Q5⟩:=vf hq
 have aR:=(bY.1 hx).1
 have ym:∀k,bg (s.b.set l .dead) k=if k=l then .dead else bg s.b k:=λk=>vd k aR
 have hT:jJ η η (bg s.b) (bg (s.b.set l .dead)):=λk=>by
  cases hk:bg s.b k with
  | un=>trivial
  | dead=>simp only [ym];split;rfl;exact hk
  | live =>
   simp only [ym]
   split
   ·exact .inr rfl
   ·exact .inl ⟨hk,trivial⟩
 have qP:∀k,bg (s.b.set l .dead) k=.live->bg s.b k=.live/\k≠l:=λk hk=>by
  rw [ym] at hk
  split at hk
  ·cases hk
  ·exact ⟨hk,by assumption⟩
 have own:=D.dh l bl hq hb
 have ne:∀b,b≠bl->(w.putObj bl o).heap[b]?=w.heap[b]?:=λb h=>World.putObj_heap_other h
 exact {
  t:=ja hT (bR.le.refl _) _ _ D.t
  sv:=ja hT (bR.le.refl _) _ _ D.sv
  d:=D.d
  h0:=D.h0
  hw:=λb o' h=>by rw [ne b (λe=>by subst e;rw [own.1] at h;cases h)];exact D.hw b o' h
  fw:=λb o' h=>by rw [ne b (λe=>by subst e;rw [own.2] at h;cases h)];exact D.fw b o' h
  hf:=D.hf
  sl:=λk y hy=>by
   by_cases db:k=l
   ·subst db
    have hy:(s.b.set k .dead)[k]?=some y:=hy
    rw [qM aR] at hy
    cases hy;trivial
   ·have hy:(s.b.set l .dead)[k]?=some y:=hy
    rw [eY (λe=>db e.symm)] at hy
    have hs:=D.sl k y hy
    by_cases dZ:y.live=.live
    ·refine hs.kept hT (bR.le.refl _) rfl λb h=>ne b λe=>?_
     subst e
     exact db (D.dj k l b (by rw [df hy];exact dZ) hq h hb)
    ·cases y with
     | un=>trivial
     | dead=>trivial
     | fix=>exact absurd rfl dZ
     | dyn=>exact absurd rfl dZ
     | map=>exact absurd rfl dZ
     | iter=>exact absurd rfl dZ
     | eV=>exact absurd rfl dZ
  dj:=λk k' b h1 h2=>D.dj k k' b (qP k h1).1 (qP k' h2).1
  dh:=λk b h1=>D.dh k b (qP k h1).1
  os:=D.os
  tape:=D.tape
  out:=D.out }
end
abbrev FP:=Option Nat × List Nat
def CH (s:St):List Tmp->List Nat
 | []=>[]
 | t :: r=>match iS s t with
  | some l=>l :: CH s r
  | none=>CH s r
def fp (o:Oper) (s:St):FP :=
 (
  match qn o.op with
   | true=>(match ly o.op with
    | some x=>iS s x
    | none=>none)
   | false=>none,
  match iI o.op with
   | some ys=>CH s ys
   | none=>[])
def H8:Option Nat->List Nat->Bool
 | none,_=>true
 | some l,ys=>ys.all λy=>!Nat.beq l y
def H9 (f g:FP):Bool:=H8 f.1 g.2&&H8 g.1 f.2
def ss (p j:Oper):Bool:=qn p.op&&vA j.op
def known (p j:Oper):Bool:=!ss p j||((ly p.op).isSome&&(iI j.op).isSome)
def Pb (ops:List Oper) (p j:Oper):Bool:=O8 ops p j&&(known p j&&known j p)
theorem aby {s:St}:∀{ys:List Tmp} {y:Tmp} {l:Nat},y∈ys->iS s y=some l->l∈CH s ys
 | [],y,l,h,_=>by cases h
 | t :: r,y,l,h,hl=>by
  unfold CH
  rcases ez.1 h with rfl|h
  ·rw [hl];simp
  ·have:=aby h hl
   split
   ·exact AB _ this
   ·exact this
theorem aaD {s s':St}:∀{ys:List Tmp},(∀y∈ys,iS s y=iS s' y)->CH s ys=CH s' ys
 | [],_=>rfl
 | t :: r,h=>by
  unfold CH
  rw [h t (by simp),aaD λy hy=>h y (by simp [hy])]
theorem apo {l:Nat} {ys:List Nat} (h:H8 (some l) ys=true):l∉ys:=λhl=>by
 have:=m8.1 h l hl
 simp at this
theorem Sep.of {p j:Oper} {s:St} (hk:known p j=true) (h:ss p j=true->H8 (fp p s).1 (fp j s).2=true):Sep p j s:=λhw=>by
 cases hr:vA j.op with
 | false=>exact .inl rfl
 | true =>
  right
  have hc:ss p j=true:=by simp [ss,hw,hr]
  have h:=h hc
  simp only [known,hc,Bool.not_true,Bool.false_or,er] at hk
  obtain ⟨x,hx⟩:=u5.1 hk.1
  obtain ⟨ys,hy⟩:=u5.1 hk.2
  refine ⟨x,ys,hx,hy,λl hl y hm Rc=>?_⟩
  simp only [fp,hw,hx,hy,hl] at h
  exact apo h (aby hm Rc)
theorem abz {op:Op} {ys:List Tmp} (h:iI op=some ys):∀y∈ys,y∈lZ op:=by
 have one:∀{x:Operand} {t:Tmp},x=.tmp t->x∈op.operands->t∈lZ op:=λ{x t} hx hm =>
  Ey.2 ⟨x,by simpa using hm,by rw [hx]⟩
 cases op<;>try (cases h;done)
 case load ty x=>cases x<;>simp [iI] at h;subst h;intro y hy;simp at hy;subst hy;exact one rfl (by simp [Op.operands])
 case store ty x z=>cases x<;>simp [iI] at h;subst h;intro y hy;simp at hy;subst hy;exact one rfl (by simp [Op.operands])
 case lookup ty x z ok=>cases x<;>simp [iI] at h;subst h;intro y hy;simp at hy;subst hy;exact one rfl (by simp [Op.operands])
 case entry x=>cases x<;>simp [iI] at h;subst h;intro y hy;simp at hy;subst hy;exact one rfl (by simp [Op.operands])
 case mapUpdate ty x z z'=>cases x<;>simp [iI] at h;subst h;intro y hy;simp at hy;subst hy;exact one rfl (by simp [Op.operands])
 case insert ty x z z'=>cases x<;>simp [iI] at h;subst h;intro y hy;simp at hy;subst hy;exact one rfl (by simp [Op.operands])
 case indexAddr ty x z=>cases x<;>simp [iI] at h;subst h;intro y hy;simp at hy;subst hy;exact one rfl (by simp [Op.operands])
 case slice ty x lo hi mx =>
  cases x<;>cases mx<;>simp [iI] at h
  subst h;intro y hy;simp at hy;subst hy;exact one rfl (by simp [Op.operands])
 case call c =>
  cases hc:c.callee with
  | value g=>simp [iI,hc] at h
  | invoke r m=>simp [iI,hc] at h
  | builtin b =>
   simp only [iI,hc,u7] at h
   subst h
   intro y hy
   obtain ⟨x,hx,e⟩:=Ey.1 hy
   cases x<;>simp at e
   subst e
   exact one rfl (NI hx)
theorem amH {op:Op} {t:Tmp} (h:ly op=some t):∃ys,iI op=some ys:=by
 cases op<;>try (cases h;done)
 case store ty x z=>cases x<;>simp [ly] at h;exact ⟨_,rfl⟩
 case mapUpdate ty x y z=>cases x<;>simp [ly] at h;exact ⟨_,rfl⟩
 case insert ty x y z=>cases x<;>simp [ly] at h;exact ⟨_,rfl⟩
 case call c =>
  cases hc:c.callee with
  | value g=>simp [ly,hc] at h
  | invoke r m=>simp [ly,hc] at h
  | builtin b=>exact ⟨tmpsOf c.args.toList,by simp [iI,hc]⟩
theorem aoa {j:Oper} {s s':St} (h:∀t∈lZ j.op,iS s t=iS s' t):fp j s=fp j s':=by
 unfold fp
 congr 1
 ·cases qn j.op with
  | false=>rfl
  | true =>
   simp only
   cases hw:ly j.op with
   | none=>rfl
   | some x =>
    obtain ⟨ys,hy⟩:=amH hw
    exact h x (abz hy x (acm hw hy))
 ·cases hr:iI j.op with
  | none=>rfl
  | some ys=>exact aaD λy hy=>h y (abz hr y hy)
section
variable {P:Program} {X:Ctx} {f:Fr} {s:St} {η:Nat->Value} {H:bR} {a:Act} {w:World}
theorem ads {ops:List Oper} {p j:Oper} {l:Nat} {s1:St} (h:Out X ops p l s s1) (ap:AR ops p j):fp j s1=fp j s:=by
 obtain ⟨g,x,u,h1,rfl⟩:=EI.1 h
 refine aoa λt ht=>?_
 rw [abu (b':=s.b) λi hi e=>ap.d1 i hi (e ▸ ht)]
 rcases h1.guard with ⟨_,rfl⟩|⟨i,y,v,_,rfl,h3,h4⟩
 ·rfl
 ·exact JI h3 h4 s.b t
abbrev It:=(Nat × Oper × Nat) × FP
def CV (X:Ctx) (ops:List Oper):List It->St->(St->Prop)->Prop
 | [],s,k=>k s
 | x :: L,s,k=>∃s',Out X ops x.1.2.1 x.1.2.2 s s'/\fp x.1.2.1 s=x.2/\CV X ops L s' k
def Wz (X:Ctx) (ops:List Oper):List (Oper × Nat)->List FP->St->(List FP->St->Prop)->Prop
 | [],acc,s,k=>k acc s
 | (o,l) :: r,acc,s,k=>PB X ops o l s λs'=>Wz X ops r (acc++[fp o s]) s' k
theorem acx {ops:List Oper} {K:List FP->St->Prop}:∀(L:List (Nat × Oper × Nat)) (acc:List FP) (s:St),Wz X ops (ol L) acc s K->∃fs:List FP,fs.length=L.length/\CV X ops (L.zip fs) s (K (acc++fs))
 | [],acc,s,h=>⟨[],rfl,by rw [N7];exact h⟩
 | x :: L,acc,s,h=>by
  obtain ⟨s',h1,h2⟩:=(abm X ops x.2.1 x.2.2 s _).1 h
  obtain ⟨fs,h3,h4⟩:=acx L (acc++[fp x.2.1 s]) s' h2
  refine ⟨fp x.2.1 s :: fs,by simp [h3],s',h1,rfl,?_⟩
  rw [Tg] at h4
  exact h4
theorem acz {ops:List Oper} {k:St->Prop}:∀(L:List (Nat × Oper × Nat)) (s:St),kV X ops (ol L) s k->∃fs:List FP,fs.length=L.length/\CV X ops (L.zip fs) s k
 | [],s,h=>⟨[],rfl,h⟩
 | x :: L,s,h=>by
  obtain ⟨s',h1,h2⟩:=uZ.1 h
  obtain ⟨fs,h3,h4⟩:=acz L s' h2
  exact ⟨fp x.2.1 s :: fs,by simp [h3],s',h1,rfl,h4⟩
structure WA (ops:List Oper) (x y:It):Prop where
 t:AR ops x.1.2.1 y.1.2.1
 k1:known x.1.2.1 y.1.2.1=true
 k2:known y.1.2.1 x.1.2.1=true
 s1:ss x.1.2.1 y.1.2.1=true->H8 x.2.1 y.2.2=true
 s2:ss y.1.2.1 x.1.2.1=true->H8 y.2.1 x.2.2=true
theorem adt (C:X.Ok P) {ops:Array Oper} {k:St->Prop} (x:It) (B:List It):∀(A:List It) {s:St},Good f s->mG ops s ((A++x :: B).map (·.1))->(∀p∈A,WA ops.toList p x) ->
  CV X ops.toList (A++x :: B) s k->CV X ops.toList (x :: A++B) s k
 | [],s,_,_,_,h=>h
 | p :: A,s,G,W,hA,h=>by
  obtain ⟨s1,h1,uD,h2⟩:=h
  have hp:=hA p (by simp)
  have G1:=G.out C (W.get p.1 (by simp)) (λha=>W.un p.1 (by simp) ha) (W.store p.1 (by simp)) h1
  obtain ⟨s2,h4,h4',h5⟩:=adt C x B A G1 (W.tail h1) (λq hq=>hA q (by simp [hq])) h2
  have hx:fp x.1.2.1 s=x.2:=(ads h1 hp.t).symm.trans h4'
  have Lk:=(lX.1 W.ji).1 x.1 (by simp)
  obtain ⟨IJ,h6,h7⟩:=swap G hp.t (Sep.of hp.k1 (by rw [uD,hx];exact hp.s1)) (Sep.of hp.k2 (by rw [uD,hx];exact hp.s2)) (λha=>W.un p.1 (by simp) ha) (λha=>W.un x.1 (by simp) ha) Lk h1 h4
  exact ⟨IJ,h6,hx,s2,h7,(ads h6 hp.t.symm).trans uD,h5⟩
def Pc (ops:List Oper):List Oper->List Oper->List Nat->Bool
 | [],_,_=>true
 | o :: r,pre,acc =>
  (o.after.toList.all λe=>!Region.binds .any e||Nat.blt e.on pre.length) &&
  (pre.zipIdx.all λp=>(so acc o).testBit p.2||Pb ops p.1 o) &&
  Pc ops r (pre++[o]) (acc++[so acc o])
def T5 (ops:List Oper):Bool:=Pc ops ops [] []
def EV (m:Nat) (o:Oper) (i:Nat):List Oper->Nat->List (Nat × Nat)
 | [],_=>[]
 | p :: r,j=>match ss p o||ss o p with
  | true=>match m.testBit j with
   | true=>EV m o i r (j+1)
   | false=>(j,i) :: EV m o i r (j+1)
  | false=>EV m o i r (j+1)
def Km:List Oper->List Oper->List Nat->List (Nat × Nat)
 | [],_,_=>[]
 | o :: r,pre,acc=>EV (so acc o) o pre.length pre 0++Km r (pre++[o]) (acc++[so acc o])
def Uy (ops:List Oper):List (Nat × Nat):=Km ops [] []
def Kn (fs:List FP):List (Nat × Nat)->Bool
 | []=>true
 | q :: r=>(match fs[q.1]?,fs[q.2]? with
  | some f,some g=>H9 f g
  | _,_=>false)&&Kn fs r
structure acA (ops:List Oper):Prop where
 back:∀i o e,ops[i]?=some o->e∈o.after.toList->Region.binds .any e=true->e.on < i
 apart:∀i o j p,ops[i]?=some o->ops[j]?=some p->j < i->oL ops j i\/Pb ops p o=true/\((ss p o||ss o p)=true->(j,i)∈Uy ops)
theorem abA {m:Nat} {o:Oper} {i:Nat}:∀{r:List Oper} {n j:Nat} {p:Oper},r[j]?=some p->(ss p o||ss o p)=true->m.testBit (n+j)=false->(n+j,i)∈EV m o i r n
 | [],n,j,p,h,_,_=>by simp at h
 | x :: r,n,0,p,h,hc,hm=>by
  simp at h;subst h
  unfold EV
  rw [hc]
  simp only
  rw [show m.testBit n=false by simpa using hm]
  simp
 | x :: r,n,j+1,p,h,hc,hm=>by
  have:=abA (i:=i) (r:=r) (n:=n+1) (j:=j) (by simpa using h) hc (by rwa [show n+1+j=n+(j+1) by omega])
  rw [show n+1+j=n+(j+1) by omega] at this
  unfold EV
  split
  ·split
   ·exact this
   ·exact AB _ this
  ·exact this
theorem aaE (ops:List Oper):∀(r pre:List Oper) (acc:List Nat),ops=pre++r->acc.length=pre.length ->
  (∀i j,i < pre.length->(acc.getD i 0).testBit j=true->oL ops j i) ->
  Pc ops r pre acc=true->(∀i o e,pre.length<=i->ops[i]?=some o->e∈o.after.toList->Region.binds .any e=true->e.on < i) /\
   ∀i o j p,pre.length<=i->ops[i]?=some o->ops[j]?=some p->j < i->oL ops j i\/Pb ops p o=true/\((ss p o||ss o p)=true->(j,i)∈Km r pre acc)
 | [],pre,acc,he,_,_,_=>by
  have hn:∀i o,pre.length<=i->ops[i]?=some o->False:=λi o hi ho=>by
   rw [he,N7,mA hi] at ho;cases ho
  exact ⟨λi o e hi ho=>(hn i o hi ho).elim,λi o j p hi ho=>(hn i o hi ho).elim⟩
 | o :: r,pre,acc,he,hl,hm,h=>by
  simp only [Pc,er] at h
  obtain ⟨⟨h1,h2⟩,h3⟩:=h
  have iL:ops[pre.length]?=some o:=by rw [he];simp
  have KR:∀e,e∈o.after.toList->Region.binds .any e=true->e.on < pre.length:=by
   intro e gR hb
   have:=m8.1 h1 e gR
   rw [hb] at this
   simpa [G4] using this
  have E9:∀j,(so acc o).testBit j=true->oL ops j pre.length:=by
   intro j hj S hS hi
   rcases T3 acc o.after.toList 0 j hj with h|⟨e,h4,h5,h6⟩
   ·simp at h
   ·have Dm:=hi o e iL h4 h5
    rcases h6 with h6|h6
    ·rw [<-h6];exact Dm
    ·exact hm e.on j (KR e h4 h5) h6 S hS λo' e' jn gR me=>hS e.on o' e' jn Dm gR me
  have ih:=aaE ops r (pre++[o]) (acc++[so acc o]) (by rw [he];simp) (by simp [hl]) (λi j hi hj=>by
   simp at hi
   by_cases aR:i < pre.length
   ·refine hm i j aR ?_
    rw [ig,nY (by omega)] at hj
    rw [ig];exact hj
   ·have:i=pre.length:=by omega
    subst this
    refine E9 j ?_
    rw [ig,u4 (by omega)] at hj
    simpa [hl] using hj) h3
  simp only [gk,AG,AH] at ih
  refine ⟨λi o' e hi jn gR me=>?_,λi o' j p hi jn hp hj=>?_⟩
  ·by_cases qY:i=pre.length
   ·subst qY
    rw [iL] at jn;simp at jn;subst jn
    exact KR e gR me
   ·exact ih.1 i o' e (by omega) jn gR me
  ·by_cases qY:i=pre.length
   ·subst qY
    rw [iL] at jn;simp at jn;subst jn
    have fe:pre[j]?=some p:=by rw [he,nY hj] at hp;exact hp
    have:=m8.1 h2 (p,j) (by rw [Hb];simpa using fe)
    simp only [v5] at this
    cases hb:(so acc o).testBit j with
    | true=>exact .inl (E9 j hb)
    | false =>
     right
     rw [hb] at this
     refine ⟨by simpa using this,λhc=>?_⟩
     unfold Km
     refine Cg _ ?_
     have:=abA (m:=so acc o) (o:=o) (i:=pre.length) (r:=pre) (n:=0) fe hc (by simpa using hb)
     simpa using this
   ·refine (ih.2 i o' j p (by omega) jn hp hj).imp id λ⟨h4,h5⟩=>⟨h4,λhc=>?_⟩
    unfold Km
    exact Eu _ (h5 hc)
theorem alZ {ops:List Oper} (h:T5 ops=true):acA ops:=by
 obtain ⟨h1,h2⟩:=aaE ops ops [] [] rfl rfl (λi j hi=>by simp at hi) h
 exact ⟨λi o e=>h1 i o e (cL _),λi o j p=>h2 i o j p (cL _)⟩
theorem aaF {fs:List FP}:∀{ps:List (Nat × Nat)},Kn fs ps=true->∀q∈ps,∃f g,fs[q.1]?=some f/\fs[q.2]?=some g/\H9 f g=true
 | [],_,q,hq=>by cases hq
 | x :: r,h,q,hq=>by
  simp only [Kn,er] at h
  rcases ez.1 hq with rfl|hq
  ·have h1:=h.1
   split at h1
   ·exact ⟨_,_,by assumption,by assumption,h1⟩
   ·cases h1
  ·exact aaF h.2 q hq
theorem aob (C:X.Ok P) {ops:Array Oper} (O:acA ops.toList) {Q:Exit->Act->World->Prop} {k:St->Prop} (hk:∀s' η' H' a' w',Den f s' η' H' a' w'->k s'->Q .normal a' w') :
  ∀(n:Nat) (L:List It) {dR:Array Bool} {s:St} {η:Nat->Value} {H:bR} {a:Act} {w:World},L.length=n->mG ops s (L.map (·.1))->L.Pairwise (λx y=>x.1.1 < y.1.1) ->
   (∀x∈L,∀y∈L,x.1.1 < y.1.1->oL ops.toList x.1.1 y.1.1\/WA ops.toList x y) ->
   (∀i,i < ops.size->(dR.getD i true=false↔∃x∈L,x.1.1=i))->(∀i,dR.getD i false=true\/dR.getD i true=false\/ops.size<=i) ->
   (∀i o e,ops[i]?=some o->dR.getD i false=true->e∈o.after.toList->Region.binds .any e=true->dR.getD e.on false=true) ->
   Den f s η H a w->CV X ops.toList L s k->wpAny P .any ops Q n dR a w:=by
 intro n
 induction n with
 | zero =>
  intro L dR s η H a w hn W rQ WB nG gB A7 D h
  have:L=[]:=m6 hn
  subst this
  refine ⟨?_,hk s η H a w D h⟩
  rw [S2]
  intro i hi
  obtain ⟨h0,o,ho,_⟩:=mem_ready.1 hi
  have aR:=(js.1 ho).1
  obtain ⟨x,hx,_⟩:=(nG i aR).1 h0
  cases hx
 | succ n ih =>
  intro L dR s η H a w hn W rQ WB nG gB A7 D h
  constructor
  ·intro hr
   cases L with
   | nil=>simp at hn
   | cons x L =>
    have hx:=W.get x.1 (by simp)
    have aR:=(js.1 hx).1
    have:x.1.1∈Region.ready .any ops dR:=by
     refine mem_ready.2 ⟨(nG x.1.1 aR).2 ⟨x,by simp,rfl⟩,x.1.2.1,hx,λe he hb=>?_⟩
     have wE:=O.back x.1.1 x.1.2.1 e (by simpa using hx) (by simpa using he) hb
     rcases gB e.on with h1|h1|h1
     ·exact h1
     ·obtain ⟨y,hy,zS⟩:=(nG e.on (by omega)).1 h1
      rcases ez.1 hy with rfl|hy
      ·omega
      ·have:=(lX.1 rQ).1 y hy;omega
     ·omega
    rw [hr] at this
    cases this
  ·intro i hi
   obtain ⟨h0,o,ho,xT⟩:=mem_ready.1 hi
   have aR:=(js.1 ho).1
   obtain ⟨x,hx,rfl⟩:=(nG i aR).1 h0
   obtain ⟨A,B,rfl⟩:=GY hx
   have jo:=W.get x.1 (by simp)
   rw [ho] at jo
   simp at jo
   have kg:=oA.1 rQ
   have hA:∀p∈A,WA ops.toList p x:=by
    intro p hp
    have Bw:p.1.1 < x.1.1:=kg.2.2 p hp x (by simp)
    have oT:=W.get p.1 (GU (by simp [hp]))
    rcases WB p (by simp [hp]) x (by simp) Bw with hF|hi
    ·have:=hF (λr=>dR.getD r false=true) (λr o' e hr hS he hb=>A7 r o' e (by simpa using hr) hS he hb)
      (λo' e jn he hb=>by
       have:o'=o:=by
        have h1:ops[x.1.1]?=some o':=by simpa using jn
        rw [ho] at h1;simpa using h1.symm
       subst this
       exact xT e (by simpa using he) hb)
     have nt:=(nG p.1.1 (js.1 oT).1).2 ⟨p,by simp [hp],rfl⟩
     have wF:p.1.1 < dR.size:=by
      rcases v8 p.1.1 dR.size with h|h
      ·exact h
      ·simp [He h] at this
     simp [wF] at this nt
     rw [this] at nt;cases nt
    ·exact hi
   have h2:=adt C x B A ⟨η,H,a,w,D⟩ W hA h
   obtain ⟨s1,h3,_,h4⟩:=h2
   have nH:(A++x :: B).Perm (x :: (A++B)):=JO
   have eS:∀y,y∈(x :: (A++B)).map (·.1)->y∈(A++x :: B).map (·.1):=λy hy=>((nH.map (·.1)).mem_iff).2 hy
   have W':mG ops s ((x :: (A++B)).map (·.1)):={
    get:=λy hy=>W.get y (eS y hy)
    store:=λy hy=>W.store y (eS y hy)
    un:=λy hy=>W.un y (eS y hy)
    ji:=((nH.map (·.1)).pairwise_iff (λ{a b} h h1 h2=>(h h2 h1).symm)).1 W.ji }
   refine JU C D (by rw [ho,jo]) (λha=>W.un x.1 (by simp) ha) (W.store x.1 (by simp)) h3 λη' H' a' w' D'=>?_
   have Ll:x.1.1 < dR.size:=by
    rcases v8 x.1.1 dR.size with h|h
    ·exact h
    ·simp [He h] at h0
   have um:∀j (d:Bool),(dR.setIfInBounds x.1.1 true).getD j d=if x.1.1=j then true else dR.getD j d:=by
    intro j d
    by_cases hj:x.1.1=j
    ·subst hj;simp [Ll]
    ·rw [getD_set_ne d hj,if_neg hj]
   have sub:∀y,y∈A++B->y∈A++x :: B:=λy hy=>nH.mem_iff.2 (AB _ hy)
   refine ih (A++B) (by simp at hn ⊢;omega) (W'.tail h3) ?_ (λy hy z hz=>WB y (sub y hy) z (sub z hz)) ?_ ?_ ?_ D' h4
   ·exact oA.2 ⟨kg.1,(lX.1 kg.2.1).2,λp hp q hq=>kg.2.2 p hp q (by simp [hq])⟩
   ·intro j hj
    rw [um]
    by_cases jv:x.1.1=j
    ·subst jv
     simp only [if_true]
     refine ⟨λh=>(by cases h),λ⟨y,hy,Mi⟩=>?_⟩
     exfalso
     rcases List.mem_append.1 hy with hy|hy
     ·have:=kg.2.2 y hy x (by simp);omega
     ·have:=(lX.1 kg.2.1).1 y hy;omega
    ·rw [if_neg jv,nG j hj]
     constructor
     ·rintro ⟨y,hy,rfl⟩
      rcases List.mem_append.1 hy with hy|hy
      ·exact ⟨y,by simp [hy],rfl⟩
      ·rcases ez.1 hy with rfl|hy
       ·exact absurd rfl jv
       ·exact ⟨y,by simp [hy],rfl⟩
     ·rintro ⟨y,hy,rfl⟩
      exact ⟨y,sub y hy,rfl⟩
   ·intro j
    rw [um,um]
    by_cases jv:x.1.1=j
    ·simp [jv]
    ·rw [if_neg jv,if_neg jv];exact gB j
   ·intro j o' e hj hl he hb
    rw [um] at hl ⊢
    split at hl
    ·rename_i jv
     subst jv
     rw [ho] at hj;simp at hj;subst hj
     split
     ·rfl
     ·exact xT e (by simpa using he) hb
    ·split
     ·rfl
     ·exact A7 j o' e hj hl he hb
def regionF (X:Ctx) (ops:List Oper) (s:St) (k:St->Prop):Prop :=
 match Uy ops with
 | []=>apm X ops s k
 | q :: ps=>Wz X ops (fx ops s.b.length) [] { s with b:=s.b++jC (rG ops) } λfs s'=>match Kn fs (q :: ps) with
  | true=>k s'
  | false=>False
theorem al0 (C:X.Ok P) {r:Bool} {F:Fence} (R:RF r F) {id:Nat} {ops:Array Oper} (hs:xI ops.toList=true) (hd:T5 ops.toList=true) {Q:Exit->Act->World->Prop} {k:St->Prop}
  (hk:∀s' η' H' a' w',Den f s' η' H' a' w'->k s'->Q .normal a' w') (D:Den f s η H a w) (h:regionF X ops.toList s k):(Code.region id ops true).wpIn F 0 P Q a w:=by
 refine wpIn_mono (Q:=wT (Q .normal)) ?_ (λe a' w' h=>by cases e<;>first|exact h|exact h.elim)
 have hk:∀s' η' H' a' w',Den f s' η' H' a' w'->k s'->wT (Q .normal) .normal a' w':=hk
 have D1:=D.ext (rG ops.toList)
 have W:=SU hs s
 have O:=alZ hd
 obtain ⟨fs,zQ,je,yn⟩:∃fs:List FP,fs.length=(items ops.toList s.b.length).length/\CV X ops.toList ((items ops.toList s.b.length).zip fs) { s with b:=s.b++jC (rG ops.toList) } (λs'=>k s') /\
   (∀q∈Uy ops.toList,∃f g,fs[q.1]?=some f/\fs[q.2]?=some g/\H9 f g=true):=by
  unfold regionF at h
  split at h
  ·rename_i hp
   have h1:kV X ops.toList (ol (items ops.toList s.b.length)) { s with b:=s.b++jC (rG ops.toList) } k:=by rw [AK];exact h
   obtain ⟨fs,h2,h3⟩:=acz _ _ h1
   exact ⟨fs,h2,h3,λq hq=>by rw [hp] at hq;cases hq⟩
  ·rename_i q ps hp
   rw [<-AK] at h
   obtain ⟨fs,h2,h3⟩:=acx _ _ _ h
   simp only [lg] at h3
   have hb:Kn fs (q :: ps)=true:=by
    have fin:∀(L:List It) (s:St) (K:St->Prop),CV X ops.toList L s K->∃s',K s':=by
     intro L
     induction L with
     | nil=>intro s K h;exact ⟨s,h⟩
     | cons x L ih=>intro s K h;obtain ⟨s',_,_,h⟩:=h;exact ih s' K h
    obtain ⟨s',h4⟩:=fin _ _ _ h3
    split at h4
    ·assumption
    ·exact h4.elim
   rw [hb] at h3
   exact ⟨fs,h2,h3,by rw [hp];exact aaF hb⟩
 have Ft:∀x∈(items ops.toList s.b.length).zip fs,fs[x.1.1]?=some x.2/\x.1∈items ops.toList s.b.length:=by
  intro x hx
  obtain ⟨i,hi⟩:=Cf.1 hx
  rw [NU] at hi
  have h1:((items ops.toList s.b.length).map (·.1))[i]?=some x.1.1:=by rw [m7,hi.1];rfl
  rw [vV] at h1
  have h2:=bY.1 h1
  have h3:i=x.1.1:=by simpa using h2.2
  exact ⟨by rw [<-h3];exact hi.2,cb hi.1⟩
 refine wpIn_region_draw λt=>O9 R hs Kl _ _ _ ?_
 simp only [Region.schedule,show P.follows .mixedOrders=true from C.mixed,Bool.true_or,if_true]
 refine wpAny_sound ops.size t _ a _ ?_
 have D2:Den f { s with b:=s.b++jC (rG ops.toList) } η H a { w with drawn:=w.drawn+1 }:=D1.grown (SD w none)
 have VH:(items ops.toList s.b.length).length=ops.size:=by
  have:=congrArg List.length (vV ops.toList s.b.length)
  simpa using this
 have hlen:((items ops.toList s.b.length).zip fs).length=ops.size:=by simp [zQ,VH]
 have CR:((items ops.toList s.b.length).zip fs).map (·.1)=items ops.toList s.b.length:=by
  rw [Tn];omega
 have rQ:((items ops.toList s.b.length).zip fs).Pairwise λx y=>x.1.1 < y.1.1:=by
  have h2:((((items ops.toList s.b.length).zip fs).map (·.1)).map (·.1)).Pairwise (· < ·):=by rw [CR,vV];exact Ta
  rw [yW,yW] at h2
  exact h2
 refine aob C O hk ops.size _ hlen (by rw [CR];exact W) rQ ?_ ?_ ?_ ?_ D2 je
 ·intro x hx y hy hxy
  obtain ⟨h1,h2⟩:=Ft x hx
  obtain ⟨h3,h4⟩:=Ft y hy
  have h5:=W.get x.1 h2
  have h6:=W.get y.1 h4
  rcases O.apart y.1.1 y.1.2.1 x.1.1 x.1.2.1 (by simpa using h6) (by simpa using h5) hxy with hF|⟨hi,hp⟩
  ·exact .inl hF
  ·right
   simp only [Pb,er] at hi
   have both:(ss x.1.2.1 y.1.2.1||ss y.1.2.1 x.1.2.1)=true->H9 x.2 y.2=true:=λhc=>by
    obtain ⟨f,g,e1,e2,e3⟩:=yn _ (hp hc)
    rw [h1] at e1;rw [h3] at e2
    simp at e1 e2
    rw [e1,e2];exact e3
   refine ⟨aaC hi.1,hi.2.1,hi.2.2,λhc=>?_,λhc=>?_⟩
   ·have:=both (by rw [hc];rfl)
    simp only [H9,er] at this
    exact this.1
   ·have:=both (by rw [hc];simp)
    simp only [H9,er] at this
    exact this.2
 ·intro i hi
  have:(Array.replicate ops.size false).getD i true=false:=by simp [hi]
  simp only [this,true_iff]
  have hm:i∈(((items ops.toList s.b.length).zip fs).map (·.1)).map (·.1):=by rw [CR,vV];simpa using hi
  obtain ⟨z,hz,rfl⟩:=kf.1 hm
  obtain ⟨x,hx,rfl⟩:=kf.1 hz
  exact ⟨x,hx,rfl⟩
 ·intro i
  by_cases hi:i < ops.size
  ·right;left;simp [hi]
  ·right;right;omega
 ·intro i o e ho hl
  exfalso
  by_cases hi:i < ops.size
  ·simp [hi] at hl
  ·simp [hi] at hl
end
end Go.Vc
