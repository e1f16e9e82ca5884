import Derived.Test.YthnhbemmlfaihaaR6
import Derived.RangeFuncRecord
import Derived.OrdersIn
import Derived.LoopNIn
import Derived.Deep.LoopGhost
set_option linter.unusedVariables false
set_option linter.unusedSimpArgs false
set_option maxRecDepth 10000
set_option maxHeartbeats 64000000
namespace Go.Vc
open Go
def iR (X:Ctx) (ops:List Oper):List (Oper × Nat)->St->(St->Prop)->Prop
 | [],s,k=>k s
 | (o,l) :: r,s,k=>IS X ops o l s λs'=>iR X ops r s' k
def ep:List Oper->Nat->List (Oper × Nat)
 | [],_=>[]
 | o :: r,n=>(o,n) :: ep r (match fl o.op with|true=>n+1|false=>n)
def oi:List Oper->Nat
 | []=>0
 | o :: r=>(match fl o.op with|true=>1|false=>0)+oi r
def iI:Nat->List Slot
 | 0=>[]
 | n+1=>.un :: iI n
def aeV (X:Ctx) (ops:List Oper) (s:St) (k:St->Prop):Prop :=
 iR X ops (ep ops s.b.length) { s with b:=s.b++iI (oi ops) } k
def tw:Op->Bool
 | .defer _=>true
 | _=>false
def rX (ops:List Oper):Bool:=ops.all λo=>match qa o.op with|true=>o.dst.isNone|false=>!tw o.op
def RF (r:Bool) (F:Fence):Prop:=match r with
 | false=>F=Fence.wide
 | true=>∃l,F=Fence.wide.inRound l
section ahj
variable {P:Program} {r:Bool} {F:Fence}
theorem RF.fn (R:RF r F) (g:FuncId):F.fn g:=by
 cases r
 ·have R:F=_:=R;subst R;trivial
 ·obtain ⟨l,rfl⟩:=R;trivial
theorem RF.depth (R:RF r F):F.depth=none:=by
 cases r
 ·have R:F=_:=R;subst R;rfl
 ·obtain ⟨l,rfl⟩:=R;rfl
theorem RF.calls (R:RF r F) {n:Nat} {g:FuncId} {args:Array Value} {w:World} {K:Ending->World->Prop} (h:Calls P g args w K):CallsIn F n P g args w K:=by
 have h':CallsIn Fence.wide n P g args w K:=callsIn_wide.2 h
 cases r
 ·have R:F=_:=R;subst R;exact h'
 ·obtain ⟨l,rfl⟩:=R;exact h'
theorem RF.rows (R:RF r F) {n:Nat} {row:String} {args:Array Value} {w:World} {K:Value->World->Prop} (h:Rows P row args w K):RowsIn F n P row args w K:=by
 have h':RowsIn Fence.wide n P row args w K:=λc cs _=>by
  obtain ⟨v,w',h1,h2⟩:=h c cs
  exact ⟨v,w',h1,stepsIn_wide.2 h2⟩
 cases r
 ·have R:F=_:=R;subst R;exact h'
 ·obtain ⟨l,rfl⟩:=R;exact h'
theorem RF.nd (R:RF r F) {n:Nat}:F.depth.isSome=true->1<=n:=λh=>by rw [R.depth] at h;cases h
theorem wj (R:RF r F) {o:Oper} (fB:tw o.op=false) {a:Act} {w:World} {K:Act->World->Prop} {Q:Exit->Act->World->Prop} (h:o.wp P a w K Q):o.wpIn F 0 P a w K Q:=by
 refine ⟨λg _=>R.fn g,?_⟩
 rw [Oper.semAt_eq _ _ _ (λc e=>by rw [e] at fB;cases fB)]
 unfold Oper.wp at h
 generalize (execOp a.eval o).run P w=z at *
 cases z with
 | ok x w' =>
  cases x<;>simp only [Oper.upon,Oper.uponIn] at h ⊢<;>first|exact h|exact ⟨R.nd,R.calls h⟩|exact ⟨R.nd,R.rows h⟩|exact h.elim
 | halt x w'=>cases x<;>simp only [Oper.upon,Oper.uponIn] at h ⊢<;>exact h
theorem Iv (R:RF r F) {ops:Array Oper} {Q:Exit->Act->World->Prop} (hs:rX ops.toList=true) (hQ:¬LetsOut Q):∀(l:List Nat) (a:Act) (w:World),wpOps P ops Q l a w->wpOpsIn F 0 P ops Q l a w
 | [],a,w,h=>h
 | i :: l,a,w,h=>by
  rw [wpOps_cons] at h
  rw [wpOpsIn_cons]
  unfold wpOp at h
  unfold wpOpIn
  cases ho:ops[i]? with
  | none=>rw [ho] at h;exact Iv R hs hQ l a w h
  | some o =>
   rw [ho] at h
   simp only at h ⊢
   by_cases hw:Region.wanted o (yielded ops a.tmps)=true
   ·rw [if_pos hw] at h ⊢
    rcases h with h|h
    ·refine Oper.wpIn_mono (λa w h=>Iv R hs hQ l a w h) (wj R ?_ h)
     have:=im.1 hs o (by simpa using uy ho)
     cases db:qa o.op
     ·rw [db] at this;simpa using this
     ·cases ff:o.op<;>rw [ff] at db<;>first|rfl|cases db
    ·exact absurd h.2 hQ
   ·rw [if_neg hw] at h ⊢
    exact ⟨λg _=>R.fn g,Iv R hs hQ l _ w h⟩
end ahj
theorem Iw:∀n,iI n=List.replicate n .un
 | 0=>rfl
 | n+1=>by rw [iI,Iw n];rfl
section
variable {P:Program} {X:Ctx} {f:Fr} {s:St} {η:Nat->Value} {H:aV} {a:Act} {w:World}
theorem aeW (b:List Slot) (n l:Nat):aN (b++iI n) l=aN b l:=by
 unfold aN
 by_cases h:l < b.length
 ·rw [iY h]
 ·rw [oL (by omega),Iw,ux,l7 (by omega)]
  split<;>rename_i e
  ·split at e
   ·simp at e;subst e;rfl
   ·cases e
  ·rfl
theorem Den.ext (D:Den f s η H a w) (n:Nat):Den f { s with b:=s.b++iI n } η H a w:=by
 have hq:aN (s.b++iI n)=aN s.b:=funext λl=>aeW s.b n l
 exact { D with
  t:=by rw [hq];exact D.t
  sv:=by rw [hq];exact D.sv
  sl:=λl x hx=>by
   rw [hq]
   by_cases h:l < s.b.length
   ·rw [iY h] at hx;exact D.sl l x hx
   ·rw [oL (by omega),Iw,ux] at hx
    split at hx
    ·simp at hx;subst hx;trivial
    ·cases hx
  dj:=by rw [hq];exact D.dj
  dh:=by rw [hq];exact D.dh }
structure j3 (ops:Array Oper) (s:St) (L:List (Nat × Oper × Nat)):Prop where
 get:∀x∈L,ops[x.1]?=some x.2.1
 store:∀x∈L,BU x.2.1
 un:∀x∈L,fl x.2.1.op=true->s.b[x.2.2]?=some .un
 gW:L.Pairwise λx y=>fl x.2.1.op=true->fl y.2.1.op=true->x.2.2≠y.2.2
def ol (L:List (Nat × Oper × Nat)):List (Oper × Nat):=L.map (·.2)
theorem j3.tail {ops:Array Oper} {x:Nat × Oper × Nat} {L:List (Nat × Oper × Nat)} (W:j3 ops s (x :: L)) {s1:St} (h:Out X ops.toList x.2.1 x.2.2 s s1):j3 ops s1 L where
 get y hy:=W.get y (by simp [hy])
 store y hy:=W.store y (by simp [hy])
 un y hy ha:=afQ h (W.un y (by simp [hy]) ha) λhx=>(eX.1 W.gW).1 y hy hx ha
 gW:=(eX.1 W.gW).2
theorem qM {ops:List Oper} {x:Oper × Nat} {L:List (Oper × Nat)} {k:St->Prop}:iR X ops (x :: L) s k↔∃s',Out X ops x.1 x.2 s s'/\iR X ops L s' k:=by
 obtain ⟨o,l⟩:=x
 exact SR X ops o l s _
theorem ET (C:X.Ok P) {ops:Array Oper} {k:St->Prop} (x:Nat × Oper × Nat) (B:List (Nat × Oper × Nat)):∀(A:List (Nat × Oper × Nat)) {s:St} {Ks:Tmp->List Nat},Good f s->ot ops.toList Ks s->(∀y∈A++x :: B,se ops.toList Ks y.2.1 y.2.2)->j3 ops s (A++x :: B) ->
  (∀p∈A,tC ops.toList p.2.1 x.2.1)->iR X ops.toList (ol (A++x :: B)) s k->iR X ops.toList (ol (x :: A++B)) s k
 | [],s,_,_,_,_,_,_,h=>h
 | p :: A,s,Ks,G,FA,hK,W,hA,h=>by
  have mp:p.2.1∈ops.toList:=by have:=W.get p (by simp);exact Array.mem_toList_iff.2 (uy this)
  have mx:x.2.1∈ops.toList:=by have:=W.get x (by simp);exact Array.mem_toList_iff.2 (uy this)
  obtain ⟨s1,h1,h2⟩:=qM.1 h
  have G1:=G.out C (W.get p (by simp)) (λha=>W.un p (by simp) ha) (W.store p (by simp)) h1
  have h3:=ET C x B A G1 (FA.out mp (hK p (by simp)) (λf S h=>(C.sp f S h).lr) h1) (λy hy=>hK y (by simp only [zx,cx];exact .inr hy)) (W.tail h1) (λq hq=>hA q (by simp [hq])) h2
  obtain ⟨s2,h4,h5⟩:=qM.1 h3
  have Ah:=(eX.1 W.gW).1 x (by simp)
  obtain ⟨C1,h6,h7⟩:=swap G (hA p (by simp)).t ((hA p (by simp)).sep FA mp mx) ((hA p (by simp)).symm.sep FA mx mp) (λha=>W.un p (by simp) ha) (λha=>W.un x (by simp) ha) Ah h1 h4
  exact qM.2 ⟨C1,h6,qM.2 ⟨s2,h7,h5⟩⟩
def oQ (acc:List Nat) (o:Oper):Nat :=
 o.after.toList.foldl (λm e=>if Region.binds .any e then m ||| (2^e.on) ||| acc.getD e.on 0 else m) 0
def IT (ops:List Oper):List Oper->List Oper->List Nat->Bool
 | [],_,_=>true
 | o :: r,pre,acc =>
  (o.after.toList.all λe=>!Region.binds .any e||Nat.blt e.on pre.length) &&
  (pre.zipIdx.all λp=>(oQ acc o).testBit p.2||indep ops p.1 o) &&
  IT ops r (pre++[o]) (acc++[oQ acc o])
def EG (ops:List Oper):Bool:=IT ops ops [] []
def lM (ops:List Oper) (j i:Nat):Prop:=∀S:Nat->Prop,(∀r o e,ops[r]?=some o->S r->e∈o.after.toList->Region.binds .any e=true->S e.on) ->
 (∀o e,ops[i]?=some o->e∈o.after.toList->Region.binds .any e=true->S e.on)->S j
theorem MC (acc:List Nat) (es:List Edge) (m0 j:Nat) (h:(es.foldl (λm e=>if Region.binds .any e then m ||| (2^e.on) ||| acc.getD e.on 0 else m) m0).testBit j=true) :
  m0.testBit j=true\/∃e∈es,Region.binds .any e=true/\(e.on=j\/(acc.getD e.on 0).testBit j=true):=by
 induction es generalizing m0 with
 | nil=>exact .inl h
 | cons e es ih =>
  simp only [mA] at h
  rcases ih _ h with h|⟨e',h1,h2⟩
  ·split at h
   ·rename_i hb
    simp only [Nat.testBit_or,oO] at h
    rcases h with (h|h)|h
    ·exact .inl h
    ·exact .inr ⟨e,by simp,hb,.inl (by rw [Nat.testBit_two_pow] at h;simpa using h)⟩
    ·exact .inr ⟨e,by simp,hb,.inr h⟩
   ·exact .inl h
  ·exact .inr ⟨e',by simp [h1],h2⟩
structure Ordered (ops:List Oper):Prop where
 back:∀i o e,ops[i]?=some o->e∈o.after.toList->Region.binds .any e=true->e.on < i
 apart:∀i o j p,ops[i]?=some o->ops[j]?=some p->j < i->lM ops j i\/indep ops p o=true
theorem Sg (ops:List Oper):∀(r pre:List Oper) (acc:List Nat),ops=pre++r->acc.length=pre.length ->
  (∀i j,i < pre.length->(acc.getD i 0).testBit j=true->lM ops j i) ->
  IT ops r pre acc=true->(∀i o e,pre.length<=i->ops[i]?=some o->e∈o.after.toList->Region.binds .any e=true->e.on < i) /\
   ∀i o j p,pre.length<=i->ops[i]?=some o->ops[j]?=some p->j < i->lM ops j i\/indep ops p o=true
 | [],pre,acc,he,_,_,_=>by
  have hn:∀i o,pre.length<=i->ops[i]?=some o->False:=λi o hi ho=>by
   rw [he,zm,l7 hi] at ho;cases ho
  exact ⟨λi o e hi ho=>(hn i o hi ho).elim,λi o j p hi ho=>(hn i o hi ho).elim⟩
 | o :: r,pre,acc,he,hl,hm,h=>by
  simp only [IT,cu] at h
  obtain ⟨⟨h1,h2⟩,h3⟩:=h
  have mb:ops[pre.length]?=some o:=by rw [he];simp
  have E4:∀e,e∈o.after.toList->Region.binds .any e=true->e.on < pre.length:=by
   intro e fi hb
   have:=im.1 h1 e fi
   rw [hb] at this
   simpa [BD] using this
  have zY:∀j,(oQ acc o).testBit j=true->lM ops j pre.length:=by
   intro j hj S hS hi
   rcases MC acc o.after.toList 0 j hj with h|⟨e,h4,h5,h6⟩
   ·simp at h
   ·have yK:=hi o e mb h4 h5
    rcases h6 with h6|h6
    ·rw [<-h6];exact yK
    ·exact hm e.on j (E4 e h4 h5) h6 S hS λo' e' fW fi gF=>hS e.on o' e' fW yK fi gF
  have ih:=Sg ops r (pre++[o]) (acc++[oQ acc o]) (by rw [he];simp) (by simp [hl]) (λi j hi hj=>by
   simp at hi
   by_cases aP:i < pre.length
   ·refine hm i j aP ?_
    rw [List.getD_eq_getElem?_getD,iY (by omega)] at hj
    rw [List.getD_eq_getElem?_getD];exact hj
   ·have:i=pre.length:=by omega
    subst this
    refine zY j ?_
    rw [List.getD_eq_getElem?_getD,oL (by omega)] at hj
    simpa [hl] using hj) h3
  simp only [fS,oN,BA] at ih
  refine ⟨λi o' e hi fW fi gF=>?_,λi o' j p hi fW hp hj=>?_⟩
  ·by_cases me:i=pre.length
   ·subst me
    rw [mb] at fW;simp at fW;subst fW
    exact E4 e fi gF
   ·exact ih.1 i o' e (by omega) fW fi gF
  ·by_cases me:i=pre.length
   ·subst me
    rw [mb] at fW;simp at fW;subst fW
    have dU:pre[j]?=some p:=by rw [he,iY hj] at hp;exact hp
    have:=im.1 h2 (p,j) (by rw [BJ];simpa using dU)
    simp only [oO] at this
    exact this.imp (zY j) id
   ·exact ih.2 i o' j p (by omega) fW hp hj
theorem RA {ops:List Oper} (h:EG ops=true):Ordered ops:=by
 obtain ⟨h1,h2⟩:=Sg ops ops [] [] rfl rfl (λi j hi=>by simp at hi) h
 exact ⟨λi o e=>h1 i o e (cP _),λi o j p=>h2 i o j p (cP _)⟩
theorem UJ (C:X.Ok P) {ops:Array Oper} (O:Ordered ops.toList) {Q:Exit->Act->World->Prop} {k:St->Prop} (hk:∀s' η' H' a' w',Den f s' η' H' a' w'->k s'->Q .normal a' w') :
  ∀(n:Nat) (L:List (Nat × Oper × Nat)) {bW:Array Bool} {Ks:Tmp->List Nat} {s:St} {η:Nat->Value} {H:aV} {a:Act} {w:World},L.length=n->j3 ops s L->L.Pairwise (λx y=>x.1 < y.1) ->
   (∀i,i < ops.size->(bW.getD i true=false↔∃x∈L,x.1=i))->(∀i,bW.getD i false=true\/bW.getD i true=false\/ops.size<=i) ->
   (∀i o e,ops[i]?=some o->bW.getD i false=true->e∈o.after.toList->Region.binds .any e=true->bW.getD e.on false=true) ->
   ot ops.toList Ks s->(∀y∈L,se ops.toList Ks y.2.1 y.2.2)->Den f s η H a w->iR X ops.toList (ol L) s k->wpAny P .any ops Q n bW a w:=by
 intro n
 induction n with
 | zero =>
  intro L bW Ks s η H a w hn W kM mJ e6 wm FA hK D h
  have:L=[]:=gI hn
  subst this
  refine ⟨?_,hk s η H a w D h⟩
  rw [Eo]
  intro i hi
  obtain ⟨h0,o,ho,_⟩:=mem_ready.1 hi
  have aP:=(fe.1 ho).1
  obtain ⟨x,hx,_⟩:=(mJ i aP).1 h0
  cases hx
 | succ n ih =>
  intro L bW Ks s η H a w hn W kM mJ e6 wm FA hK D h
  constructor
  ·intro hr
   cases L with
   | nil=>simp at hn
   | cons x L =>
    have hx:=W.get x (by simp)
    have aP:=(fe.1 hx).1
    have:x.1∈Region.ready .any ops bW:=by
     refine mem_ready.2 ⟨(mJ x.1 aP).2 ⟨x,by simp,rfl⟩,x.2.1,hx,λe he hb=>?_⟩
     have uU:=O.back x.1 x.2.1 e (by simpa using hx) (by simpa using he) hb
     rcases e6 e.on with h1|h1|h1
     ·exact h1
     ·obtain ⟨y,hy,yL⟩:=(mJ e.on (by omega)).1 h1
      rcases cx.1 hy with rfl|hy
      ·omega
      ·have:=(eX.1 kM).1 y hy;omega
     ·omega
    rw [hr] at this
    cases this
  ·intro i hi
   obtain ⟨h0,o,ho,tD⟩:=mem_ready.1 hi
   have aP:=(fe.1 ho).1
   obtain ⟨x,hx,rfl⟩:=(mJ i aP).1 h0
   obtain ⟨A,B,rfl⟩:=Bz hx
   have ia:=W.get x (by simp)
   rw [ho] at ia
   simp at ia
   have iy:=kq.1 kM
   have hA:∀p∈A,tC ops.toList p.2.1 x.2.1:=by
    intro p hp
    have J3:p.1 < x.1:=iy.2.2 p hp x (by simp)
    have sL:=W.get p (by simp [hp])
    rcases O.apart x.1 x.2.1 p.1 p.2.1 (by rw [<-ia];simpa using ho) (by simpa using sL) J3 with hF|hi
    ·
     have:=hF (λr=>bW.getD r false=true) (λr o' e hr hS he hb=>wm r o' e (by simpa using hr) hS he hb)
      (λo' e fW he hb=>by
       have:o'=o:=by
        have h1:ops[x.1]?=some o':=by simpa using fW
        rw [ho] at h1;simpa using h1.symm
       subst this
       exact tD e (by simpa using he) hb)
     have jz:=(mJ p.1 (fe.1 sL).1).2 ⟨p,by simp [hp],rfl⟩
     have Ai:p.1 < bW.size:=by
      rcases nZ p.1 bW.size with h|h
      ·exact h
      ·simp [zq h] at this
     simp [Ai] at this jz
     rw [this] at jz;cases jz
    ·exact Hq hi
   have h2:=ET C x B A ⟨η,H,a,w,D⟩ FA hK W hA h
   obtain ⟨s1,h3,h4⟩:=qM.1 h2
   have kI:(A++x :: B).Perm (x :: (A++B)):=Ea
   have W':j3 ops s (x :: (A++B)):={
    get:=λy hy=>W.get y (kI.mem_iff.2 hy)
    store:=λy hy=>W.store y (kI.mem_iff.2 hy)
    un:=λy hy=>W.un y (kI.mem_iff.2 hy)
    gW:=(kI.pairwise_iff (λ{a b} h h1 h2=>(h h2 h1).symm)).1 W.gW }
   refine Ei C D (by rw [ho,ia]) (λha=>W.un x (by simp) ha) (W.store x (by simp)) h3 λη' H' a' w' D'=>?_
   have Fp:x.1 < bW.size:=by
    rcases nZ x.1 bW.size with h|h
    ·exact h
    ·simp [zq h] at h0
   have qi:∀j (d:Bool),(bW.setIfInBounds x.1 true).getD j d=if x.1=j then true else bW.getD j d:=by
    intro j d
    by_cases hj:x.1=j
    ·subst hj;simp [Fp]
    ·rw [getD_set_ne d hj,if_neg hj]
   refine ih (A++B) (by simp at hn ⊢;omega) (W'.tail h3) ?_ ?_ ?_ ?_ (FA.out (Array.mem_toList_iff.2 (uy (W.get x (by simp)))) (hK x (by simp)) (λf S h=>(C.sp f S h).lr) h3) (λy hy=>hK y (kI.mem_iff.2 (by simp only [cx];exact .inr hy))) D' h4
   ·have:=iy
    exact kq.2 ⟨iy.1,(eX.1 iy.2.1).2,λp hp q hq=>iy.2.2 p hp q (by simp [hq])⟩
   ·intro j hj
    rw [qi]
    by_cases iB:x.1=j
    ·subst iB
     simp only [if_true]
     refine ⟨λh=>(by cases h),λ⟨y,hy,YV⟩=>?_⟩
     exfalso
     rcases eE.1 hy with hy|hy
     ·have:=iy.2.2 y hy x (by simp);omega
     ·have:=(eX.1 iy.2.1).1 y hy;omega
    ·rw [if_neg iB,mJ j hj]
     constructor
     ·rintro ⟨y,hy,rfl⟩
      rcases eE.1 hy with hy|hy
      ·exact ⟨y,by simp [hy],rfl⟩
      ·rcases cx.1 hy with rfl|hy
       ·exact absurd rfl iB
       ·exact ⟨y,by simp [hy],rfl⟩
     ·rintro ⟨y,hy,rfl⟩
      rcases eE.1 hy with hy|hy
      ·exact ⟨y,by simp [hy],rfl⟩
      ·exact ⟨y,by simp [hy],rfl⟩
   ·intro j
    rw [qi,qi]
    by_cases iB:x.1=j
    ·simp [iB]
    ·rw [if_neg iB,if_neg iB];exact e6 j
   ·intro j o' e hj hl he hb
    rw [qi] at hl ⊢
    split at hl
    ·rename_i iB
     subst iB
     rw [ho] at hj;simp at hj;subst hj
     split
     ·rfl
     ·exact tD e (by simpa using he) hb
    ·split
     ·rfl
     ·exact wm j o' e hj hl he hb
def IU (ops:List Oper) (K:Tmp->List Nat) (x:Tmp) (A:List Tmp):List Tmp->Bool
 | []=>true
 | y :: r=>(match j8 ops 8 y with
  | none=>true
  | some B=>match tM A B with
   | true=>tM (K x) (K y)
   | false=>true)&&IU ops K x A r
def IV (ops:List Oper) (K:Tmp->List Nat) (x:Tmp) (A:List Tmp):List Oper->Bool
 | []=>true
 | j :: r=>(match fO j.op with
  | some ys=>(match zN ops A ys with
   | true=>IU ops K x A ys
   | false=>true)
  | none=>true)&&IV ops K x A r
def yg (ops:List Oper) (K:Tmp->List Nat):List Oper->Bool
 | []=>true
 | p :: r=>(match mP p.op with
  | true=>(match je p.op with
   | some x=>(match j8 ops 8 x with
    | none=>true
    | some A=>IV ops K x A ops)
   | none=>true)
  | false=>true)&&yg ops K r
theorem S5 {ops:List Oper} {A:List Tmp}:∀{ys:List Tmp},(∀y∈ys,∃B,j8 ops 8 y=some B/\tM A B=true)->zN ops A ys=true
 | [],_=>rfl
 | y :: r,h=>by
  obtain ⟨B,h1,h2⟩:=h y (by simp)
  simp only [zN,h1,h2,Ee]
  exact S5 λz hz=>h z (by simp [hz])
theorem TY {ops:List Oper} {K:Tmp->List Nat} {x:Tmp} {A:List Tmp}:∀{ys:List Tmp},IU ops K x A ys=true->(∀y∈ys,∃B,j8 ops 8 y=some B/\tM A B=true)->∀y∈ys,∀l∈K x,l∉K y
 | [],_,_,y,hy=>by cases hy
 | z :: r,h,hd,y,hy=>by
  simp only [IU,cu] at h
  rcases cx.1 hy with rfl|hy
  ·obtain ⟨B,h1,h2⟩:=hd y (by simp)
   have h3:=h.1
   simp only [h1,h2] at h3
   exact UF h3
  ·exact TY h.2 (λz hz=>hd z (by simp [hz])) y hy
theorem TZ {ops:List Oper} {K:Tmp->List Nat} {x:Tmp} {A:List Tmp}:∀{r:List Oper},IV ops K x A r=true->∀j∈r,∀ys,fO j.op=some ys->(∀y∈ys,∃B,j8 ops 8 y=some B/\tM A B=true) ->
  ∀y∈ys,∀l∈K x,l∉K y
 | [],_,j,hj,_,_,_=>by cases hj
 | k :: r,h,j,hj,ys,hy,hd=>by
  simp only [IV,cu] at h
  rcases cx.1 hj with rfl|hj
  ·have h1:=h.1
   rw [hy] at h1
   simp only [S5 hd] at h1
   exact TY h1 hd
  ·exact TZ h.2 j hj ys hy hd
theorem EH {ops:List Oper} {K:Tmp->List Nat}:∀{r:List Oper},yg ops K r=true->∀p∈r,∀j∈ops,∀x ys,CZ ops p j x ys->mP p.op=true->∀y∈ys,∀l∈K x,l∉K y
 | [],_,p,hp,_,_,_,_,_,_=>by cases hp
 | k :: r,h,p,hp,j,hj,x,ys,F,hw=>by
  simp only [yg,cu] at h
  rcases cx.1 hp with rfl|hp
  ·have h1:=h.1
   rw [hw] at h1
   simp only [F.p] at h1
   obtain ⟨A,hA⟩:=F.ax
   rw [hA] at h1
   exact TZ h1 j hj ys F.j (F.d A hA)
  ·exact EH h.2 p hp j hj x ys F hw
def WB (ops:List Oper) (s:St):Bool:=yg ops (po ops (ep ops s.b.length) s) ops
def items (ops:List Oper) (n:Nat):List (Nat × Oper × Nat):=(ep ops n).zipIdx.map λp=>(p.2,p.1.1,p.1.2)
theorem Lc:∀(ops:List Oper) (n:Nat),(ep ops n).length=ops.length
 | [],n=>rfl
 | o :: r,n=>by simp [ep,Lc r]
theorem MD:∀(ops:List Oper) (n i:Nat) (p:Oper × Nat),(ep ops n)[i]?=some p->ops[i]?=some p.1
 | [],n,i,p,h=>by simp [ep] at h
 | o :: r,n,0,p,h=>by simp [ep] at h;subst h;rfl
 | o :: r,n,i+1,p,h=>by simp only [ep,LA] at h ⊢;exact MD r _ i p h
theorem MY:∀(ops:List Oper) (n:Nat),∀p∈ep ops n,n<=p.2/\(fl p.1.op=true->p.2 < n+oi ops)
 | [],n,p,h=>by simp [ep] at h
 | o :: r,n,p,h=>by
  simp only [ep,cx] at h
  rcases h with rfl|h
  ·refine ⟨fT _,λha=>?_⟩
   simp only at ha
   simp only [oi,ha];omega
  ·have:=MY r _ p h
   simp only [oi]
   cases hq:fl o.op<;>rw [hq] at this<;>simp only at this ⊢<;>exact ⟨by omega,λha=>by have:=this.2 ha;omega⟩
theorem S6:∀(ops:List Oper) (n:Nat),(ep ops n).Pairwise λx y=>fl x.1.op=true->fl y.1.op=true->x.2≠y.2
 | [],n=>by simp [ep]
 | o :: r,n=>by
  simp only [ep,eX]
  refine ⟨λy hy hx _=>?_,S6 r _⟩
  rw [hx] at hy
  have:=(MY r _ y hy).1
  simp only at this ⊢
  omega
theorem vX (ops:List Oper) (n:Nat):ol (items ops n)=ep ops n:=by
 unfold ol items
 rw [HJ]
 apply nh
 intro i
 simp only [k7,List.getElem?_zipIdx]
 cases (ep ops n)[i]?<;>simp
theorem rP (ops:List Oper) (n:Nat):(items ops n).map (·.1)=List.range ops.length:=by
 unfold items
 rw [HJ]
 apply nh
 intro i
 simp only [k7,List.getElem?_zipIdx]
 by_cases h:i < ops.length
 ·have h2:i < (ep ops n).length:=by rw [Lc];exact h
  simp [h,h2]
 ·have h2:(ep ops n).length<=i:=by rw [Lc];omega
  simp [h2,show ops.length<=i by omega]
theorem Lo {ops:Array Oper} (hs:rX ops.toList=true) (s:St):j3 ops { s with b:=s.b++iI (oi ops.toList) } (items ops.toList s.b.length):=by
 have mem:∀x∈items ops.toList s.b.length,(ep ops.toList s.b.length)[x.1]?=some x.2:=by
  intro x hx
  unfold items at hx
  obtain ⟨p,hp,rfl⟩:=jW.1 hx
  rw [BJ] at hp
  simpa using hp
 constructor
 ·intro x hx
  have:=MD _ _ _ _ (mem x hx)
  simpa using this
 ·intro x hx he
  have:=MD _ _ _ _ (mem x hx)
  have h2:=im.1 hs x.2.1 (cN this)
  rw [he] at h2
  simpa using h2
 ·intro x hx ha
  have hg:=MY ops.toList s.b.length x.2 (cN (mem x hx))
  have h2:=hg.2 ha
  simp only
  rw [oL hg.1,Iw,ux,if_pos (by omega)]
 ·unfold items
  rw [pY]
  have:((ep ops.toList s.b.length).zipIdx).Pairwise λx y=>fl x.1.1.op=true->fl y.1.1.op=true->x.1.2≠y.1.2:=by
   have h:=S6 ops.toList s.b.length
   rw [<-List.zipIdx_map_fst 0 (ep ops.toList s.b.length),pY] at h
   exact h
  exact this
def sM (K:Act->World->Prop):Exit->Act->World->Prop
 | .normal,a,w=>K a w
 | _,_,_=>False
theorem EI {K:Act->World->Prop}:¬LetsOut (sM K):=λ⟨_,_,h⟩=>h
end
structure Ext (r:Bool) (f f':Fr):Prop where
 h0:f'.H0=f.H0
 w0:f'.w0=f.w0
 sS:f'.sS=f.sS
 sV:f'.sV=f.sV
 gr:∃ms:List Nat,f'.dS=ms++f.dS/\ms.Nodup/\(∀D∈ms,f.F D=none/\f'.F D=some (.deferred (some []))/\f.H0 D=none)/\(∀b,b∉ms->f'.F b=f.F b)/\(r=true->ms=[])
theorem Ext.refl (r:Bool) (f:Fr):Ext r f f:=⟨rfl,rfl,rfl,rfl,[],rfl,xI,λ_ h=>by simp at h,λ_ _=>rfl,λ_=>rfl⟩
theorem Ext.trans {r:Bool} {f g h:Fr} (a:Ext r f g) (b:Ext r g h):Ext r f h:=by
 obtain ⟨ms,a1,a2,a3,a4,a5⟩:=a.gr
 obtain ⟨ns,b1,b2,b3,b4,b5⟩:=b.gr
 have hd:∀D∈ns,D∉ms:=λD h1 h2=>by
  have:=(a3 D h2).2.1
  rw [(b3 D h1).1] at this;cases this
 refine ⟨b.h0.trans a.h0,b.w0.trans a.w0,b.sS.trans a.sS,b.sV.trans a.sV,ns++ms,by rw [b1,a1,tq],?_,?_,?_,λhr=>by rw [b5 hr,a5 hr];rfl⟩
 ·rw [HE]
  exact ⟨b2,a2,λx hx y hy e=>hd x hx (e ▸ hy)⟩
 ·intro D hD
  rcases eE.1 hD with h1|h1
  ·refine ⟨?_,(b3 D h1).2.1,by rw [<-a.h0];exact (b3 D h1).2.2⟩
   rw [<-a4 D (hd D h1)];exact (b3 D h1).1
  ·refine ⟨(a3 D h1).1,?_,(a3 D h1).2.2⟩
   rw [b4 D (λh2=>hd D h2 h1)];exact (a3 D h1).2.1
 ·intro b hb
  rw [b4 b (λh=>hb (uB _ h)),a4 b (λh=>hb (xH _ h))]
theorem Ext.eq {f f':Fr} (h:Ext true f f'):f'=f:=by
 obtain ⟨ms,a1,_,_,a4,a5⟩:=h.gr
 have:=a5 rfl
 subst this
 obtain ⟨F,H0,w0,sS,sV,dS⟩:=f
 obtain ⟨F',H0',w0',sS',sV',dS'⟩:=f'
 have e1:F'=F:=funext λb=>a4 b (by simp)
 have e2:=h.h0;have e3:=h.w0;have e4:=h.sS;have e5:=h.sV
 simp at a1 e2 e3 e4 e5
 subst e1;subst e2;subst e3;subst e4;subst e5;subst a1
 rfl
def nB (r:Bool) (f:Fr) (k:Exit->St->Prop):Exit->Act->World->Prop :=
 λe a' w'=>∃f' s' η' H',Ext r f f'/\Den f' s' η' H' a' w'/\k e s'
theorem nB.up {r:Bool} {f f':Fr} {k:Exit->St->Prop} (h:Ext r f f') {e:Exit} {a:Act} {w:World} (p:nB r f' k e a w):nB r f k e a w:=by
 obtain ⟨g,s',η',H',h1,h2,h3⟩:=p
 exact ⟨g,s',η',H',h.trans h1,h2,h3⟩
theorem nB.of {r:Bool} {f:Fr} {k:Exit->St->Prop} {e:Exit} {s:St} {η:Nat->Value} {H:aV} {a:Act} {w:World} (D:Den f s η H a w) (h:k e s):nB r f k e a w:=⟨f,s,η,H,Ext.refl r f,D,h⟩
theorem RF.inRound {r:Bool} {F:Fence} (R:RF r F) (l:Nat):RF true (F.inRound l):=by
 cases r
 ·have R:F=_:=R;subst R;exact ⟨l,rfl⟩
 ·obtain ⟨m,rfl⟩:=R;exact ⟨l,rfl⟩
section
variable {F:Fence} {n:Nat} {P:Program} {Q:Exit->Act->World->Prop} {a:Act} {w:World}
theorem wpIn_loop_ghost {c:Code} (I:Nat->Act->World->Prop) (n₀:Nat) (h₀:I n₀ a w)
  (round:∀m a w,I m a w->c.wpIn F n P (Exit.then (λa' w'=>∃n',n' < m/\I n' a' w') Q) a w):(Code.loop c).wpIn F n P Q a w:=by
 refine wpIn_loop (λa w=>∃n,I n a w) (λa w=>leastOf (λn=>I n a w)) ⟨n₀,h₀⟩ ?_
 intro a w hI
 refine wpIn_mono (round _ a w (leastOf_spec hI).1) ?_
 intro e a' w' hq
 cases e with
 | normal =>
  obtain ⟨n',aP,Px⟩:=hq
  exact show (∃n,I n a' w')/\leastOf (λn=>I n a' w') < leastOf (λn=>I n a w) from ⟨⟨n',Px⟩,Nat.lt_of_le_of_lt ((leastOf_spec ⟨n',Px⟩).2 n' Px) aP⟩
 | exit id=>exact hq
 | goto l=>exact hq
 | ret=>exact hq
 | panic ch=>exact hq
 | outgrown=>exact hq
variable {b:Frame} {k:List Item} {cs:List Frame}
theorem Bs {c:Code}:step P (lone (b.atR a (.code (.scope c) :: k)) cs w)=.next (lone (b.atR a (.code c :: .inScope c :: k)) cs w) :=
 step_lone_go (by simp [stepG,stepG.exec,Frame.atR])
theorem abg {c:Code}:step P (lone (b.atR a (.inScope c :: k)) cs w)=.next (lone (b.atR a k) cs w) :=
 step_lone_go (by simp [stepG,stepG.exec,Frame.atR])
theorem aa7 {c:Code} (h:c.wpIn F n P (Exit.noGoto Q) a w):(Code.scope c).wpIn F n P Q a w:=by
 intro b k cs hro hb hr
 have h0:(lone (b.atR a (.code (.scope c) :: k)) cs w).fenced P F:=fenced_calm hb hr rfl
 obtain ⟨e,a₁,w₁,hq,Cu⟩:=h b (.inScope c :: k) cs hro hb hr
 cases e with
 | normal=>exact ⟨.normal,a₁,w₁,hq,.head h0 Bs (StepsIn.trans Cu (.one (fenced_calm hb hr rfl) abg))⟩
 | exit id =>
  have hx:exitTo id (.inScope c :: k)=exitTo id k:=by simp [exitTo]
  exact ⟨.exit id,a₁,w₁,hq,λk' hk=>.head h0 Bs (Cu.1 k' (by rw [hx];exact hk)),
   λqp hk=>let ⟨k₁,h1,h2⟩:=Cu.2 qp (by rw [hx];exact hk);⟨k₁,h1,.head h0 Bs h2⟩⟩
 | goto l=>exact hq.elim
 | ret=>exact ⟨_,a₁,w₁,hq,.of_steps (.one h0 Bs) Cu⟩
 | panic ch=>exact ⟨_,a₁,w₁,hq,.of_steps (.one h0 Bs) Cu⟩
 | outgrown=>exact ⟨_,a₁,w₁,hq,.of_steps (.one h0 Bs) Cu⟩
end
def x6:List Nat->World->World
 | [],w=>w
 | D :: r,w=>x6 r (w.putObj D (.deferred none))
theorem Hn:∀{ms:List Nat} {w:World} {b:Nat},b∉ms->(x6 ms w).heap[b]?=w.heap[b]?
 | [],w,b,_=>rfl
 | D :: r,w,b,h=>by
  simp only [cx,not_or] at h
  simp only [x6]
  rw [Hn h.2,World.putObj_heap_other h.1]
theorem Hr:∀(ms:List Nat) (w:World),(x6 ms w).os=w.os/\(x6 ms w).tape=w.tape/\(x6 ms w).output=w.output
 | [],w=>⟨rfl,rfl,rfl⟩
 | D :: r,w=>Hr r (w.putObj D (.deferred none))
theorem RB {F:Fence} {n:Nat} {P:Program} {fn:Func} {tmps:Array Value} {R:Ending->World->Prop}:∀{ms:List Nat} {w:World},
  (∀D∈ms,w.heap[D]?=some (.deferred (some [])))->ms.Nodup->LeavesInM F n P fn tmps R [] .returning (x6 ms w)->LeavesInM F n P fn tmps R (ms.map Ca) .returning w
 | [],w,_,_,h=>h
 | D :: r,w,hm,hn,h=>by
  rw [zj] at hn
  refine ⟨by simp,.inl ⟨D,w.putObj D (.deferred none),rfl,run_takeDeferred (hm D (by simp)),?_⟩⟩
  refine RB (λD' h'=>?_) hn.2 h
  rw [World.putObj_heap_other (λe=>hn.1 (by rw [<-e];exact h'))]
  exact hm D' (by simp [h'])
section
variable {P:Program} {f f':Fr} {s:St} {η:Nat->Value} {H:aV} {a:Act} {w:World}
theorem Den.shut (E:Ext false f f') (hd:f.dS=[]) (D:Den f' s η H a w):∃ms,a.defers=ms.map Ca/\ms.Nodup/\(∀M∈ms,w.heap[M]?=some (.deferred (some []))) /\
  ∀ts,aK η (aN s.b) H s.t ts->Den f s η H ⟨ts.toArray,[]⟩ (x6 ms w):=by
 obtain ⟨ms,a1,a2,a3,a4,_⟩:=E.gr
 rw [hd,zm] at a1
 have hF:∀b,f'.F b=none->b∉ms/\f.F b=none:=λb hb=>by
  by_cases h:b∈ms
  ·rw [(a3 b h).2.1] at hb;cases hb
  ·exact ⟨h,by rw [<-a4 b h];exact hb⟩
 have YW:∀b o,f.F b=some o->b∉ms:=λb o hb h=>by rw [(a3 b h).1] at hb;cases hb
 have hHs:∀b o,H b=some o->b∉ms:=λb o hb h=>by
  rcases D.hf b (by rw [hb];simp) with h1|h1
  ·rw [E.h0] at h1;exact h1 (a3 b h).2.2
  ·rw [(a3 b h).2.1] at h1;cases h1
 refine ⟨ms,by rw [D.d,a1],a2,λM hM=>D.fw M _ (a3 M hM).2.1,λts ht=>?_⟩
 exact {
  t:=ht
  sv:=by rw [<-E.sS,<-E.sV];exact D.sv
  d:=by rw [hd];rfl
  h0:=by rw [<-E.h0];exact D.h0
  hw:=λb o hb=>by rw [Hn (hHs b o hb)];exact D.hw b o hb
  fw:=λb o hb=>by rw [Hn (YW b o hb)];exact D.fw b o (by rw [a4 b (YW b o hb)];exact hb)
  hf:=λb hb=>by
   rcases D.hf b hb with h1|h1
   ·rw [E.h0] at h1;exact .inl h1
   ·exact .inr (hF b h1).2
  sl:=λl x hx=>by
   have hs:=D.sl l x hx
   by_cases cJ:x.live=.live
   ·refine hs.kept (gD.refl _ _) (aV.le.refl _) rfl λb hb=>?_
    exact Hn (hF b (D.dh l b (by rw [bR hx];exact cJ) hb).2).1
   ·cases x with
    | un=>trivial
    | dead=>trivial
    | fix=>exact absurd rfl cJ
    | dyn=>exact absurd rfl cJ
    | e7=>exact absurd rfl cJ
    | map=>exact absurd rfl cJ
    | iter=>exact absurd rfl cJ
    | dT=>exact absurd rfl cJ
  dj:=D.dj
  dh:=λl b h1 h2=>⟨(D.dh l b h1 h2).1,(hF b (D.dh l b h1 h2).2).2⟩
  os:=by rw [(Hr ms w).1,D.os,E.w0]
  tape:=by rw [(Hr ms w).2.1,D.tape,E.w0]
  out:=by rw [(Hr ms w).2.2,D.out,E.w0] }
theorem Den.mark (D:Den f s η H a w):Den { f with F:=λb=>if b=w.heap.size then some (.deferred (some [])) else f.F b,dS:=w.heap.size :: f.dS } s η H { a with defers:=Ca w.heap.size :: a.defers } (w.alloc (.deferred (some []))) /\
  Ext false f { f with F:=λb=>if b=w.heap.size then some (.deferred (some [])) else f.F b,dS:=w.heap.size :: f.dS }:=by
 have D1:=D.grown (World.grownBy_alloc w (.deferred (some [])) none)
 have oG:∀b o,w.heap[b]?=some o->b≠w.heap.size:=λb o h e=>by
  have:=(fe.1 h).1
  omega
 have hF:f.F w.heap.size=none:=by
  cases h:f.F w.heap.size with
  | none=>rfl
  | some o=>exact absurd rfl (oG _ _ (D.fw _ _ h))
 have hH:H w.heap.size=none:=by
  cases h:H w.heap.size with
  | none=>rfl
  | some o=>exact absurd rfl (oG _ _ (D.hw _ _ h))
 have J4:f.H0 w.heap.size=none:=by
  cases h:f.H0 w.heap.size with
  | none=>rfl
  | some o=>have:=D.h0 _ _ h;rw [hH] at this;cases this
 refine ⟨{ D1 with
  d:=by simp [D.d]
  fw:=λb o h=>by
   simp only at h
   split at h
   ·rename_i e;subst e;cases h;exact World.alloc_heap_new w _
   ·exact D1.fw b o h
  hf:=λb hb=>by
   rcases D1.hf b hb with h|h
   ·exact .inl h
   ·right
    simp only
    rw [if_neg ?_];exact h
    intro e;subst e;exact hb hH
  dh:=λl b h1 h2=>by
   have:=D1.dh l b h1 h2
   refine ⟨this.1,?_⟩
   simp only
   rw [if_neg ?_];exact this.2
   intro e
   have:=D.zC h1 h2
   omega
  os:=D1.os,tape:=D1.tape,out:=D1.out },rfl,rfl,rfl,rfl,[w.heap.size],rfl,by simp,?_,?_,λh=>by cases h⟩
 ·intro M hM
  simp at hM;subst hM
  exact ⟨hF,by simp,J4⟩
 ·intro b hb
  simp at hb
  simp [hb]
theorem Den.Jj (D:Den f s η H a w) {l bl:Nat} {x y:Slot} (hx:s.b[l]?=some x) (AD:x.live=.live) (hy:y.live=.live) (hb:bS (η l)=some bl) (o:Obj)
  (jf:gD η η (aN s.b) (aN (s.b.set l y))->iO η (aN (s.b.set l y)) H (w.putObj bl o) l y):Den f { s with b:=s.b.set l y } η H a (w.putObj bl o):=by
 have hq:aN s.b l=.live:=by rw [bR hx];exact AD
 exact D.change (w':=w.putObj bl o) (η':=η) (l:=l) (x:=y) none rfl (λ_ _=>rfl) (.inr ⟨hq,rfl,rfl⟩) hy (λ_ h=>by cases h) (some bl) (Lb w bl o)
  (λk hk=>by cases hk;exact .inr ⟨hq,hb⟩) (λb gF=>.inr (.inr ⟨hq,gF⟩)) jf
theorem Den.drop (D:Den f s η H a w) {l bl:Nat} (hq:aN s.b l=.live) (hb:bS (η l)=some bl) (o:Obj):Den f { s with b:=s.b.set l .dead } η H a (w.putObj bl o):=by
 obtain ⟨x,hx,AD⟩:=qV hq
 have aP:=(bh.1 hx).1
 have Py:∀k,aN (s.b.set l .dead) k=if k=l then .dead else aN s.b k:=λk=>qT k aP
 have hT:gD η η (aN s.b) (aN (s.b.set l .dead)):=λk=>by
  cases hk:aN s.b k with
  | un=>trivial
  | dead=>simp only [Py];split;rfl;exact hk
  | live =>
   simp only [Py]
   split
   ·exact .inr rfl
   ·exact .inl ⟨hk,trivial⟩
 have nr:∀k,aN (s.b.set l .dead) k=.live->aN s.b k=.live/\k≠l:=λk hk=>by
  rw [Py] at hk
  split at hk
  ·cases hk
  ·exact ⟨hk,by assumption⟩
 have own:=D.dh l bl hq hb
 have ne:∀b,b≠bl->(w.putObj bl o).heap[b]?=w.heap[b]?:=λb h=>World.putObj_heap_other h
 exact {
  t:=fM hT (aV.le.refl _) _ _ D.t
  sv:=fM hT (aV.le.refl _) _ _ D.sv
  d:=D.d
  h0:=D.h0
  hw:=λb o' h=>by rw [ne b (λe=>by subst e;rw [own.1] at h;cases h)];exact D.hw b o' h
  fw:=λb o' h=>by rw [ne b (λe=>by subst e;rw [own.2] at h;cases h)];exact D.fw b o' h
  hf:=D.hf
  sl:=λk y hy=>by
   by_cases dP:k=l
   ·subst dP
    have hy:(s.b.set k .dead)[k]?=some y:=hy
    rw [nW aP] at hy
    cases hy;trivial
   ·have hy:(s.b.set l .dead)[k]?=some y:=hy
    rw [fU (λe=>dP e.symm)] at hy
    have hs:=D.sl k y hy
    by_cases cJ:y.live=.live
    ·refine hs.kept hT (aV.le.refl _) rfl λb h=>ne b λe=>?_
     subst e
     exact dP (D.dj k l b (by rw [bR hy];exact cJ) hq h hb)
    ·cases y with
     | un=>trivial
     | dead=>trivial
     | fix=>exact absurd rfl cJ
     | dyn=>exact absurd rfl cJ
     | e7=>exact absurd rfl cJ
     | map=>exact absurd rfl cJ
     | iter=>exact absurd rfl cJ
     | dT=>exact absurd rfl cJ
  dj:=λk k' b h1 h2=>D.dj k k' b (nr k h1).1 (nr k' h2).1
  dh:=λk b h1=>D.dh k b (nr k h1).1
  os:=D.os
  tape:=D.tape
  out:=D.out }
end
abbrev FP:=Option Nat × List Nat
def x7 (s:St):List Tmp->List Nat
 | []=>[]
 | t :: r=>match gd s t with
  | some l=>l :: x7 s r
  | none=>x7 s r
def fp (o:Oper) (s:St):FP :=
 (
  match mP o.op with
   | true=>(match je o.op with
    | some x=>gd s x
    | none=>none)
   | false=>none,
  match fO o.op with
   | some ys=>x7 s ys
   | none=>[])
def Cv:Option Nat->List Nat->Bool
 | none,_=>true
 | some l,ys=>ys.all λy=>!Nat.beq l y
def Cw (f g:FP):Bool:=Cv f.1 g.2&&Cv g.1 f.2
def oT (p j:Oper):Bool:=mP p.op&&rj j.op
def known (p j:Oper):Bool:=!oT p j||((je p.op).isSome&&(fO j.op).isSome)
def Ix (ops:List Oper) (p j:Oper):Bool:=Iu ops p j&&(known p j&&known j p)
theorem S7 {s:St}:∀{ys:List Tmp} {y:Tmp} {l:Nat},y∈ys->gd s y=some l->l∈x7 s ys
 | [],y,l,h,_=>by cases h
 | t :: r,y,l,h,hl=>by
  unfold x7
  rcases cx.1 h with rfl|h
  ·rw [hl];simp
  ·have:=S7 h hl
   split
   ·exact rR _ this
   ·exact this
theorem RQ {s s':St}:∀{ys:List Tmp},(∀y∈ys,gd s y=gd s' y)->x7 s ys=x7 s' ys
 | [],_=>rfl
 | t :: r,h=>by
  unfold x7
  rw [h t (by simp),RQ λy hy=>h y (by simp [hy])]
theorem aeX {l:Nat} {ys:List Nat} (h:Cv (some l) ys=true):l∉ys:=λhl=>by
 have:=im.1 h l hl
 simp at this
theorem Sep.of {p j:Oper} {s:St} (hk:known p j=true) (h:oT p j=true->Cv (fp p s).1 (fp j s).2=true):Sep p j s:=λhw=>by
 cases hr:rj j.op with
 | false=>exact .inl rfl
 | true =>
  right
  have hc:oT p j=true:=by simp [oT,hw,hr]
  have h:=h hc
  simp only [known,hc,Bool.not_true,Bool.false_or,cu] at hk
  obtain ⟨x,hx⟩:=qP.1 hk.1
  obtain ⟨ys,hy⟩:=qP.1 hk.2
  refine ⟨x,ys,hx,hy,λl hl y hm J5=>?_⟩
  simp only [fp,hw,hx,hy,hl] at h
  exact aeX h (S7 hm J5)
theorem S8 {op:Op} {ys:List Tmp} (h:fO op=some ys):∀y∈ys,y∈jD op:=by
 have one:∀{x:Operand} {t:Tmp},x=.tmp t->x∈op.operands->t∈jD op:=λ{x t} hx hm =>
  By.2 ⟨x,by simpa using hm,by rw [hx]⟩
 cases op<;>try (cases h;done)
 case load ty x=>cases x<;>simp [fO] at h;subst h;intro y hy;simp at hy;subst hy;exact one rfl (by simp [Op.operands])
 case store ty x z=>cases x<;>simp [fO] at h;subst h;intro y hy;simp at hy;subst hy;exact one rfl (by simp [Op.operands])
 case lookup ty x z ok=>cases x<;>simp [fO] at h;subst h;intro y hy;simp at hy;subst hy;exact one rfl (by simp [Op.operands])
 case entry x=>cases x<;>simp [fO] at h;subst h;intro y hy;simp at hy;subst hy;exact one rfl (by simp [Op.operands])
 case mapUpdate ty x z z'=>cases x<;>simp [fO] at h;subst h;intro y hy;simp at hy;subst hy;exact one rfl (by simp [Op.operands])
 case insert ty x z z'=>cases x<;>simp [fO] at h;subst h;intro y hy;simp at hy;subst hy;exact one rfl (by simp [Op.operands])
 case indexAddr ty x z=>cases x<;>simp [fO] at h;subst h;intro y hy;simp at hy;subst hy;exact one rfl (by simp [Op.operands])
 case slice ty x lo hi mx =>
  cases x<;>cases mx<;>simp [fO] at h
  subst h;intro y hy;simp at hy;subst hy;exact one rfl (by simp [Op.operands])
 case call c =>
  cases hc:c.callee with
  | value g=>simp [fO,hc] at h
  | invoke r m=>simp [fO,hc] at h
  | builtin b =>
   simp only [fO,hc,pX] at h
   subst h
   intro y hy
   obtain ⟨x,hx,e⟩:=By.1 hy
   cases x<;>simp at e
   subst e
   exact one rfl (Hm hx)
theorem ab5 {op:Op} {t:Tmp} (h:je op=some t):∃ys,fO op=some ys:=by
 cases op<;>try (cases h;done)
 case store ty x z=>cases x<;>simp [je] at h;exact ⟨_,rfl⟩
 case mapUpdate ty x y z=>cases x<;>simp [je] at h;exact ⟨_,rfl⟩
 case insert ty x y z=>cases x<;>simp [je] at h;exact ⟨_,rfl⟩
 case call c =>
  cases hc:c.callee with
  | value g=>simp [je,hc] at h
  | invoke r m=>simp [je,hc] at h
  | builtin b=>exact ⟨tmpsOf c.args.toList,by simp [fO,hc]⟩
theorem adG {j:Oper} {s s':St} (h:∀t∈jD j.op,gd s t=gd s' t):fp j s=fp j s':=by
 unfold fp
 congr 1
 ·cases mP j.op with
  | false=>rfl
  | true =>
   simp only
   cases hw:je j.op with
   | none=>rfl
   | some x =>
    obtain ⟨ys,hy⟩:=ab5 hw
    exact h x (S8 hy x (TQ hw hy))
 ·cases hr:fO j.op with
  | none=>rfl
  | some ys=>exact RQ λy hy=>h y (S8 hr y hy)
section
variable {P:Program} {X:Ctx} {f:Fr} {s:St} {η:Nat->Value} {H:aV} {a:Act} {w:World}
theorem UK {ops:List Oper} {p j:Oper} {l:Nat} {s1:St} (h:Out X ops p l s s1) (ap:v8 ops p j):fp j s1=fp j s:=by
 obtain ⟨g,x,u,h1,rfl⟩:=zI.1 h
 refine adG λt ht=>?_
 rw [S3 (b':=s.b) λi hi e=>ap.d1 i hi (e ▸ ht)]
 rcases h1.guard with ⟨_,rfl⟩|⟨i,y,v,_,rfl,h3,h4⟩
 ·rfl
 ·exact DT h3 h4 s.b t
abbrev It:=(Nat × Oper × Nat) × FP
def yj (X:Ctx) (ops:List Oper):List It->St->(St->Prop)->Prop
 | [],s,k=>k s
 | x :: L,s,k=>∃s',Out X ops x.1.2.1 x.1.2.2 s s'/\fp x.1.2.1 s=x.2/\yj X ops L s' k
def Oh (X:Ctx) (ops:List Oper):List (Oper × Nat)->List FP->St->(List FP->St->Prop)->Prop
 | [],acc,s,k=>k acc s
 | (o,l) :: r,acc,s,k=>IS X ops o l s λs'=>Oh X ops r (acc++[fp o s]) s' k
theorem T0 {ops:List Oper} {K:List FP->St->Prop}:∀(L:List (Nat × Oper × Nat)) (acc:List FP) (s:St),Oh X ops (ol L) acc s K->∃fs:List FP,fs.length=L.length/\yj X ops (L.zip fs) s (K (acc++fs))
 | [],acc,s,h=>⟨[],rfl,by rw [zm];exact h⟩
 | x :: L,acc,s,h=>by
  obtain ⟨s',h1,h2⟩:=(SR X ops x.2.1 x.2.2 s _).1 h
  obtain ⟨fs,h3,h4⟩:=T0 L (acc++[fp x.2.1 s]) s' h2
  refine ⟨fp x.2.1 s :: fs,by simp [h3],s',h1,rfl,?_⟩
  rw [tq] at h4
  exact h4
theorem T2 {ops:List Oper} {k:St->Prop}:∀(L:List (Nat × Oper × Nat)) (s:St),iR X ops (ol L) s k->∃fs:List FP,fs.length=L.length/\yj X ops (L.zip fs) s k
 | [],s,h=>⟨[],rfl,h⟩
 | x :: L,s,h=>by
  obtain ⟨s',h1,h2⟩:=qM.1 h
  obtain ⟨fs,h3,h4⟩:=T2 L s' h2
  exact ⟨fp x.2.1 s :: fs,by simp [h3],s',h1,rfl,h4⟩
structure Oi (ops:List Oper) (x y:It):Prop where
 t:v8 ops x.1.2.1 y.1.2.1
 k1:known x.1.2.1 y.1.2.1=true
 k2:known y.1.2.1 x.1.2.1=true
 s1:oT x.1.2.1 y.1.2.1=true->Cv x.2.1 y.2.2=true
 s2:oT y.1.2.1 x.1.2.1=true->Cv y.2.1 x.2.2=true
theorem UL (C:X.Ok P) {ops:Array Oper} {k:St->Prop} (x:It) (B:List It):∀(A:List It) {s:St},Good f s->j3 ops s ((A++x :: B).map (·.1))->(∀p∈A,Oi ops.toList p x) ->
  yj X ops.toList (A++x :: B) s k->yj X ops.toList (x :: A++B) s k
 | [],s,_,_,_,h=>h
 | p :: A,s,G,W,hA,h=>by
  obtain ⟨s1,h1,yM,h2⟩:=h
  have hp:=hA p (by simp)
  have G1:=G.out C (W.get p.1 (by simp)) (λha=>W.un p.1 (by simp) ha) (W.store p.1 (by simp)) h1
  obtain ⟨s2,h4,h4',h5⟩:=UL C x B A G1 (W.tail h1) (λq hq=>hA q (by simp [hq])) h2
  have hx:fp x.1.2.1 s=x.2:=(UK h1 hp.t).symm.trans h4'
  have Ah:=(eX.1 W.gW).1 x.1 (by simp)
  obtain ⟨C1,h6,h7⟩:=swap G hp.t (Sep.of hp.k1 (by rw [yM,hx];exact hp.s1)) (Sep.of hp.k2 (by rw [yM,hx];exact hp.s2)) (λha=>W.un p.1 (by simp) ha) (λha=>W.un x.1 (by simp) ha) Ah h1 h4
  exact ⟨C1,h6,hx,s2,h7,(UK h6 hp.t.symm).trans yM,h5⟩
def Iy (ops:List Oper):List Oper->List Oper->List Nat->Bool
 | [],_,_=>true
 | o :: r,pre,acc =>
  (o.after.toList.all λe=>!Region.binds .any e||Nat.blt e.on pre.length) &&
  (pre.zipIdx.all λp=>(oQ acc o).testBit p.2||Ix ops p.1 o) &&
  Iy ops r (pre++[o]) (acc++[oQ acc o])
def ME (ops:List Oper):Bool:=Iy ops ops [] []
def zP (m:Nat) (o:Oper) (i:Nat):List Oper->Nat->List (Nat × Nat)
 | [],_=>[]
 | p :: r,j=>match oT p o||oT o p with
  | true=>match m.testBit j with
   | true=>zP m o i r (j+1)
   | false=>(j,i) :: zP m o i r (j+1)
  | false=>zP m o i r (j+1)
def EJ:List Oper->List Oper->List Nat->List (Nat × Nat)
 | [],_,_=>[]
 | o :: r,pre,acc=>zP (oQ acc o) o pre.length pre 0++EJ r (pre++[o]) (acc++[oQ acc o])
def MZ (ops:List Oper):List (Nat × Nat):=EJ ops [] []
def EK (fs:List FP):List (Nat × Nat)->Bool
 | []=>true
 | q :: r=>(match fs[q.1]?,fs[q.2]? with
  | some f,some g=>Cw f g
  | _,_=>false)&&EK fs r
structure T3 (ops:List Oper):Prop where
 back:∀i o e,ops[i]?=some o->e∈o.after.toList->Region.binds .any e=true->e.on < i
 apart:∀i o j p,ops[i]?=some o->ops[j]?=some p->j < i->lM ops j i\/Ix ops p o=true/\((oT p o||oT o p)=true->(j,i)∈MZ ops)
theorem S9 {m:Nat} {o:Oper} {i:Nat}:∀{r:List Oper} {n j:Nat} {p:Oper},r[j]?=some p->(oT p o||oT o p)=true->m.testBit (n+j)=false->(n+j,i)∈zP m o i r n
 | [],n,j,p,h,_,_=>by simp at h
 | x :: r,n,0,p,h,hc,hm=>by
  simp at h;subst h
  unfold zP
  rw [hc]
  simp only
  rw [show m.testBit n=false by simpa using hm]
  simp
 | x :: r,n,j+1,p,h,hc,hm=>by
  have:=S9 (i:=i) (r:=r) (n:=n+1) (j:=j) (by simpa using h) hc (by rwa [show n+1+j=n+(j+1) by omega])
  rw [show n+1+j=n+(j+1) by omega] at this
  unfold zP
  split
  ·split
   ·exact this
   ·exact rR _ this
  ·exact this
theorem RS (ops:List Oper):∀(r pre:List Oper) (acc:List Nat),ops=pre++r->acc.length=pre.length ->
  (∀i j,i < pre.length->(acc.getD i 0).testBit j=true->lM ops j i) ->
  Iy ops r pre acc=true->(∀i o e,pre.length<=i->ops[i]?=some o->e∈o.after.toList->Region.binds .any e=true->e.on < i) /\
   ∀i o j p,pre.length<=i->ops[i]?=some o->ops[j]?=some p->j < i->lM ops j i\/Ix ops p o=true/\((oT p o||oT o p)=true->(j,i)∈EJ r pre acc)
 | [],pre,acc,he,_,_,_=>by
  have hn:∀i o,pre.length<=i->ops[i]?=some o->False:=λi o hi ho=>by
   rw [he,zm,l7 hi] at ho;cases ho
  exact ⟨λi o e hi ho=>(hn i o hi ho).elim,λi o j p hi ho=>(hn i o hi ho).elim⟩
 | o :: r,pre,acc,he,hl,hm,h=>by
  simp only [Iy,cu] at h
  obtain ⟨⟨h1,h2⟩,h3⟩:=h
  have mb:ops[pre.length]?=some o:=by rw [he];simp
  have E4:∀e,e∈o.after.toList->Region.binds .any e=true->e.on < pre.length:=by
   intro e fi hb
   have:=im.1 h1 e fi
   rw [hb] at this
   simpa [BD] using this
  have zY:∀j,(oQ acc o).testBit j=true->lM ops j pre.length:=by
   intro j hj S hS hi
   rcases MC acc o.after.toList 0 j hj with h|⟨e,h4,h5,h6⟩
   ·simp at h
   ·have yK:=hi o e mb h4 h5
    rcases h6 with h6|h6
    ·rw [<-h6];exact yK
    ·exact hm e.on j (E4 e h4 h5) h6 S hS λo' e' fW fi gF=>hS e.on o' e' fW yK fi gF
  have ih:=RS ops r (pre++[o]) (acc++[oQ acc o]) (by rw [he];simp) (by simp [hl]) (λi j hi hj=>by
   simp at hi
   by_cases aP:i < pre.length
   ·refine hm i j aP ?_
    rw [List.getD_eq_getElem?_getD,iY (by omega)] at hj
    rw [List.getD_eq_getElem?_getD];exact hj
   ·have:i=pre.length:=by omega
    subst this
    refine zY j ?_
    rw [List.getD_eq_getElem?_getD,oL (by omega)] at hj
    simpa [hl] using hj) h3
  simp only [fS,oN,BA] at ih
  refine ⟨λi o' e hi fW fi gF=>?_,λi o' j p hi fW hp hj=>?_⟩
  ·by_cases me:i=pre.length
   ·subst me
    rw [mb] at fW;simp at fW;subst fW
    exact E4 e fi gF
   ·exact ih.1 i o' e (by omega) fW fi gF
  ·by_cases me:i=pre.length
   ·subst me
    rw [mb] at fW;simp at fW;subst fW
    have dU:pre[j]?=some p:=by rw [he,iY hj] at hp;exact hp
    have:=im.1 h2 (p,j) (by rw [BJ];simpa using dU)
    simp only [oO] at this
    cases hb:(oQ acc o).testBit j with
    | true=>exact .inl (zY j hb)
    | false =>
     right
     rw [hb] at this
     refine ⟨by simpa using this,λhc=>?_⟩
     unfold EJ
     refine uB _ ?_
     have:=S9 (m:=oQ acc o) (o:=o) (i:=pre.length) (r:=pre) (n:=0) dU hc (by simpa using hb)
     simpa using this
   ·refine (ih.2 i o' j p (by omega) fW hp hj).imp id λ⟨h4,h5⟩=>⟨h4,λhc=>?_⟩
    unfold EJ
    exact xH _ (h5 hc)
theorem abh {ops:List Oper} (h:ME ops=true):T3 ops:=by
 obtain ⟨h1,h2⟩:=RS ops ops [] [] rfl rfl (λi j hi=>by simp at hi) h
 exact ⟨λi o e=>h1 i o e (cP _),λi o j p=>h2 i o j p (cP _)⟩
theorem RT {fs:List FP}:∀{ps:List (Nat × Nat)},EK fs ps=true->∀q∈ps,∃f g,fs[q.1]?=some f/\fs[q.2]?=some g/\Cw f g=true
 | [],_,q,hq=>by cases hq
 | x :: r,h,q,hq=>by
  simp only [EK,cu] at h
  rcases cx.1 hq with rfl|hq
  ·have h1:=h.1
   split at h1
   ·exact ⟨_,_,by assumption,by assumption,h1⟩
   ·cases h1
  ·exact RT h.2 q hq
theorem adH (C:X.Ok P) {ops:Array Oper} (O:T3 ops.toList) {Q:Exit->Act->World->Prop} {k:St->Prop} (hk:∀s' η' H' a' w',Den f s' η' H' a' w'->k s'->Q .normal a' w') :
  ∀(n:Nat) (L:List It) {bW:Array Bool} {s:St} {η:Nat->Value} {H:aV} {a:Act} {w:World},L.length=n->j3 ops s (L.map (·.1))->L.Pairwise (λx y=>x.1.1 < y.1.1) ->
   (∀x∈L,∀y∈L,x.1.1 < y.1.1->lM ops.toList x.1.1 y.1.1\/Oi ops.toList x y) ->
   (∀i,i < ops.size->(bW.getD i true=false↔∃x∈L,x.1.1=i))->(∀i,bW.getD i false=true\/bW.getD i true=false\/ops.size<=i) ->
   (∀i o e,ops[i]?=some o->bW.getD i false=true->e∈o.after.toList->Region.binds .any e=true->bW.getD e.on false=true) ->
   Den f s η H a w->yj X ops.toList L s k->wpAny P .any ops Q n bW a w:=by
 intro n
 induction n with
 | zero =>
  intro L bW s η H a w hn W kM Oj mJ e6 wm D h
  have:L=[]:=gI hn
  subst this
  refine ⟨?_,hk s η H a w D h⟩
  rw [Eo]
  intro i hi
  obtain ⟨h0,o,ho,_⟩:=mem_ready.1 hi
  have aP:=(fe.1 ho).1
  obtain ⟨x,hx,_⟩:=(mJ i aP).1 h0
  cases hx
 | succ n ih =>
  intro L bW s η H a w hn W kM Oj mJ e6 wm D h
  constructor
  ·intro hr
   cases L with
   | nil=>simp at hn
   | cons x L =>
    have hx:=W.get x.1 (by simp)
    have aP:=(fe.1 hx).1
    have:x.1.1∈Region.ready .any ops bW:=by
     refine mem_ready.2 ⟨(mJ x.1.1 aP).2 ⟨x,by simp,rfl⟩,x.1.2.1,hx,λe he hb=>?_⟩
     have uU:=O.back x.1.1 x.1.2.1 e (by simpa using hx) (by simpa using he) hb
     rcases e6 e.on with h1|h1|h1
     ·exact h1
     ·obtain ⟨y,hy,yL⟩:=(mJ e.on (by omega)).1 h1
      rcases cx.1 hy with rfl|hy
      ·omega
      ·have:=(eX.1 kM).1 y hy;omega
     ·omega
    rw [hr] at this
    cases this
  ·intro i hi
   obtain ⟨h0,o,ho,tD⟩:=mem_ready.1 hi
   have aP:=(fe.1 ho).1
   obtain ⟨x,hx,rfl⟩:=(mJ i aP).1 h0
   obtain ⟨A,B,rfl⟩:=Bz hx
   have ia:=W.get x.1 (by simp)
   rw [ho] at ia
   simp at ia
   have iy:=kq.1 kM
   have hA:∀p∈A,Oi ops.toList p x:=by
    intro p hp
    have J3:p.1.1 < x.1.1:=iy.2.2 p hp x (by simp)
    have sL:=W.get p.1 (D8 (by simp [hp]))
    rcases Oj p (by simp [hp]) x (by simp) J3 with hF|hi
    ·have:=hF (λr=>bW.getD r false=true) (λr o' e hr hS he hb=>wm r o' e (by simpa using hr) hS he hb)
      (λo' e fW he hb=>by
       have:o'=o:=by
        have h1:ops[x.1.1]?=some o':=by simpa using fW
        rw [ho] at h1;simpa using h1.symm
       subst this
       exact tD e (by simpa using he) hb)
     have jz:=(mJ p.1.1 (fe.1 sL).1).2 ⟨p,by simp [hp],rfl⟩
     have Ai:p.1.1 < bW.size:=by
      rcases nZ p.1.1 bW.size with h|h
      ·exact h
      ·simp [zq h] at this
     simp [Ai] at this jz
     rw [this] at jz;cases jz
    ·exact hi
   have h2:=UL C x B A ⟨η,H,a,w,D⟩ W hA h
   obtain ⟨s1,h3,_,h4⟩:=h2
   have kI:(A++x :: B).Perm (x :: (A++B)):=Ea
   have fQ:∀y,y∈(x :: (A++B)).map (·.1)->y∈(A++x :: B).map (·.1):=λy hy=>((kI.map (·.1)).mem_iff).2 hy
   have W':j3 ops s ((x :: (A++B)).map (·.1)):={
    get:=λy hy=>W.get y (fQ y hy)
    store:=λy hy=>W.store y (fQ y hy)
    un:=λy hy=>W.un y (fQ y hy)
    gW:=((kI.map (·.1)).pairwise_iff (λ{a b} h h1 h2=>(h h2 h1).symm)).1 W.gW }
   refine Ei C D (by rw [ho,ia]) (λha=>W.un x.1 (by simp) ha) (W.store x.1 (by simp)) h3 λη' H' a' w' D'=>?_
   have Fp:x.1.1 < bW.size:=by
    rcases nZ x.1.1 bW.size with h|h
    ·exact h
    ·simp [zq h] at h0
   have qi:∀j (d:Bool),(bW.setIfInBounds x.1.1 true).getD j d=if x.1.1=j then true else bW.getD j d:=by
    intro j d
    by_cases hj:x.1.1=j
    ·subst hj;simp [Fp]
    ·rw [getD_set_ne d hj,if_neg hj]
   have sub:∀y,y∈A++B->y∈A++x :: B:=λy hy=>kI.mem_iff.2 (rR _ hy)
   refine ih (A++B) (by simp at hn ⊢;omega) (W'.tail h3) ?_ (λy hy z hz=>Oj y (sub y hy) z (sub z hz)) ?_ ?_ ?_ D' h4
   ·exact kq.2 ⟨iy.1,(eX.1 iy.2.1).2,λp hp q hq=>iy.2.2 p hp q (by simp [hq])⟩
   ·intro j hj
    rw [qi]
    by_cases iB:x.1.1=j
    ·subst iB
     simp only [if_true]
     refine ⟨λh=>(by cases h),λ⟨y,hy,YV⟩=>?_⟩
     exfalso
     rcases eE.1 hy with hy|hy
     ·have:=iy.2.2 y hy x (by simp);omega
     ·have:=(eX.1 iy.2.1).1 y hy;omega
    ·rw [if_neg iB,mJ j hj]
     constructor
     ·rintro ⟨y,hy,rfl⟩
      rcases eE.1 hy with hy|hy
      ·exact ⟨y,by simp [hy],rfl⟩
      ·rcases cx.1 hy with rfl|hy
       ·exact absurd rfl iB
       ·exact ⟨y,by simp [hy],rfl⟩
     ·rintro ⟨y,hy,rfl⟩
      exact ⟨y,sub y hy,rfl⟩
   ·intro j
    rw [qi,qi]
    by_cases iB:x.1.1=j
    ·simp [iB]
    ·rw [if_neg iB,if_neg iB];exact e6 j
   ·intro j o' e hj hl he hb
    rw [qi] at hl ⊢
    split at hl
    ·rename_i iB
     subst iB
     rw [ho] at hj;simp at hj;subst hj
     split
     ·rfl
     ·exact tD e (by simpa using he) hb
    ·split
     ·rfl
     ·exact wm j o' e hj hl he hb
def regionF (X:Ctx) (ops:List Oper) (s:St) (k:St->Prop):Prop :=
 match MZ ops with
 | []=>aeV X ops s k
 | q :: ps=>Oh X ops (ep ops s.b.length) [] { s with b:=s.b++iI (oi ops) } λfs s'=>match EK fs (q :: ps) with
  | true=>k s'
  | false=>False
theorem abi (C:X.Ok P) {r:Bool} {F:Fence} (R:RF r F) {id:Nat} {ops:Array Oper} (hs:rX ops.toList=true) (hd:ME ops.toList=true) {Q:Exit->Act->World->Prop} {k:St->Prop}
  (hk:∀s' η' H' a' w',Den f s' η' H' a' w'->k s'->Q .normal a' w') (D:Den f s η H a w) (h:regionF X ops.toList s k):(Code.region id ops true).wpIn F 0 P Q a w:=by
 refine wpIn_mono (Q:=sM (Q .normal)) ?_ (λe a' w' h=>by cases e<;>first|exact h|exact h.elim)
 have hk:∀s' η' H' a' w',Den f s' η' H' a' w'->k s'->sM (Q .normal) .normal a' w':=hk
 have D1:=D.ext (oi ops.toList)
 have W:=Lo hs s
 have O:=abh hd
 obtain ⟨fs,qn,gq,hps⟩:∃fs:List FP,fs.length=(items ops.toList s.b.length).length/\yj X ops.toList ((items ops.toList s.b.length).zip fs) { s with b:=s.b++iI (oi ops.toList) } (λs'=>k s') /\
   (∀q∈MZ ops.toList,∃f g,fs[q.1]?=some f/\fs[q.2]?=some g/\Cw f g=true):=by
  unfold regionF at h
  split at h
  ·rename_i hp
   have h1:iR X ops.toList (ol (items ops.toList s.b.length)) { s with b:=s.b++iI (oi ops.toList) } k:=by rw [vX];exact h
   obtain ⟨fs,h2,h3⟩:=T2 _ _ h1
   exact ⟨fs,h2,h3,λq hq=>by rw [hp] at hq;cases hq⟩
  ·rename_i q ps hp
   rw [<-vX] at h
   obtain ⟨fs,h2,h3⟩:=T0 _ _ _ h
   simp only [uC] at h3
   have hb:EK fs (q :: ps)=true:=by
    have fin:∀(L:List It) (s:St) (K:St->Prop),yj X ops.toList L s K->∃s',K s':=by
     intro L
     induction L with
     | nil=>intro s K h;exact ⟨s,h⟩
     | cons x L ih=>intro s K h;obtain ⟨s',_,_,h⟩:=h;exact ih s' K h
    obtain ⟨s',h4⟩:=fin _ _ _ h3
    split at h4
    ·assumption
    ·exact h4.elim
   rw [hb] at h3
   exact ⟨fs,h2,h3,by rw [hp];exact RT hb⟩
 have Aj:∀x∈(items ops.toList s.b.length).zip fs,fs[x.1.1]?=some x.2/\x.1∈items ops.toList s.b.length:=by
  intro x hx
  obtain ⟨i,hi⟩:=xG.1 hx
  rw [List.getElem?_zip_eq_some] at hi
  have h1:((items ops.toList s.b.length).map (·.1))[i]?=some x.1.1:=by rw [k7,hi.1];rfl
  rw [rP] at h1
  have h2:=bh.1 h1
  have h3:i=x.1.1:=by simpa using h2.2
  exact ⟨by rw [<-h3];exact hi.2,cN hi.1⟩
 refine wpIn_region_draw λt=>Iv R hs EI _ _ _ ?_
 simp only [Region.schedule,show P.follows .mixedOrders=true from C.mixed,Bool.true_or,if_true]
 refine wpAny_sound ops.size t _ a _ ?_
 have D2:Den f { s with b:=s.b++iI (oi ops.toList) } η H a { w with drawn:=w.drawn+1 }:=D1.grown (Hh w none)
 have ahk:(items ops.toList s.b.length).length=ops.size:=by
  have:=congrArg List.length (rP ops.toList s.b.length)
  simpa using this
 have hlen:((items ops.toList s.b.length).zip fs).length=ops.size:=by simp [qn,ahk]
 have Fj:((items ops.toList s.b.length).zip fs).map (·.1)=items ops.toList s.b.length:=by
  rw [List.map_fst_zip];omega
 have kM:((items ops.toList s.b.length).zip fs).Pairwise λx y=>x.1.1 < y.1.1:=by
  have h2:((((items ops.toList s.b.length).zip fs).map (·.1)).map (·.1)).Pairwise (· < ·):=by rw [Fj,rP];exact BN
  rw [pY,pY] at h2
  exact h2
 refine adH C O hk ops.size _ hlen (by rw [Fj];exact W) kM ?_ ?_ ?_ ?_ D2 gq
 ·intro x hx y hy wS
  obtain ⟨h1,h2⟩:=Aj x hx
  obtain ⟨h3,h4⟩:=Aj y hy
  have h5:=W.get x.1 h2
  have h6:=W.get y.1 h4
  rcases O.apart y.1.1 y.1.2.1 x.1.1 x.1.2.1 (by simpa using h6) (by simpa using h5) wS with hF|⟨hi,hp⟩
  ·exact .inl hF
  ·right
   simp only [Ix,cu] at hi
   have both:(oT x.1.2.1 y.1.2.1||oT y.1.2.1 x.1.2.1)=true->Cw x.2 y.2=true:=λhc=>by
    obtain ⟨f,g,e1,e2,e3⟩:=hps _ (hp hc)
    rw [h1] at e1;rw [h3] at e2
    simp at e1 e2
    rw [e1,e2];exact e3
   refine ⟨RP hi.1,hi.2.1,hi.2.2,λhc=>?_,λhc=>?_⟩
   ·have:=both (by rw [hc];rfl)
    simp only [Cw,cu] at this
    exact this.1
   ·have:=both (by rw [hc];simp)
    simp only [Cw,cu] at this
    exact this.2
 ·intro i hi
  have:(Array.replicate ops.size false).getD i true=false:=by simp [hi]
  simp only [this,true_iff]
  have hm:i∈(((items ops.toList s.b.length).zip fs).map (·.1)).map (·.1):=by rw [Fj,rP];simpa using hi
  obtain ⟨z,hz,rfl⟩:=jW.1 hm
  obtain ⟨x,hx,rfl⟩:=jW.1 hz
  exact ⟨x,hx,rfl⟩
 ·intro i
  by_cases hi:i < ops.size
  ·right;left;simp [hi]
  ·right;right;omega
 ·intro i o e ho hl
  exfalso
  by_cases hi:i < ops.size
  ·simp [hi] at hl
  ·simp [hi] at hl
end
end Go.Vc
