import Derived.Test.YthnhbemmlfaihaaGreatO6
import Derived.RangeFuncRecord
import Derived.OrdersIn
import Derived.LoopNIn
import Derived.Deep.LoopGhost
set_option linter.unusedVariables false
set_option linter.unusedSimpArgs false
set_option maxRecDepth 10000
set_option maxHeartbeats 64000000
namespace Go.Vc
open Go
def jW (X:Ctx) (ops:List Oper):List (Oper × Nat)->St->(St->Prop)->Prop
 | [],s,k=>k s
 | (o,l) :: r,s,k=>Mh X ops o l s λs'=>jW X ops r s' k
def eS:List Oper->Nat->List (Oper × Nat)
 | [],_=>[]
 | o :: r,n=>(o,n) :: eS r (match fZ o.op with|true=>n+1|false=>n)
def pM:List Oper->Nat
 | []=>0
 | o :: r=>(match fZ o.op with|true=>1|false=>0)+pM r
def jL:Nat->List Slot
 | 0=>[]
 | n+1=>.un :: jL n
def akd (X:Ctx) (ops:List Oper) (s:St) (k:St->Prop):Prop :=
 jW X ops (eS ops s.b.length) { s with b:=s.b++jL (pM ops) } k
def vz:Op->Bool
 | .defer _=>true
 | _=>false
def ue (ops:List Oper):Bool:=ops.all λo=>match rT o.op with|true=>o.dst.isNone|false=>!vz o.op
def RF (r:Bool) (F:Fence):Prop:=match r with
 | false=>F=Fence.wide
 | true=>∃l,F=Fence.wide.inRound l
section am5
variable {P:Program} {r:Bool} {F:Fence}
theorem RF.fn (R:RF r F) (g:FuncId):F.fn g:=by
 cases r
 ·have R:F=_:=R;subst R;trivial
 ·obtain ⟨l,rfl⟩:=R;trivial
theorem RF.depth (R:RF r F):F.depth=none:=by
 cases r
 ·have R:F=_:=R;subst R;rfl
 ·obtain ⟨l,rfl⟩:=R;rfl
theorem RF.calls (R:RF r F) {n:Nat} {g:FuncId} {args:Array Value} {w:World} {K:Ending->World->Prop} (h:Calls P g args w K):CallsIn F n P g args w K:=by
 have h':CallsIn Fence.wide n P g args w K:=callsIn_wide.2 h
 cases r
 ·have R:F=_:=R;subst R;exact h'
 ·obtain ⟨l,rfl⟩:=R;exact h'
theorem RF.rows (R:RF r F) {n:Nat} {row:String} {args:Array Value} {w:World} {K:Value->World->Prop} (h:Rows P row args w K):RowsIn F n P row args w K:=by
 have h':RowsIn Fence.wide n P row args w K:=λc cs _=>by
  obtain ⟨v,w',h1,h2⟩:=h c cs
  exact ⟨v,w',h1,stepsIn_wide.2 h2⟩
 cases r
 ·have R:F=_:=R;subst R;exact h'
 ·obtain ⟨l,rfl⟩:=R;exact h'
theorem RF.nd (R:RF r F) {n:Nat}:F.depth.isSome=true->1<=n:=λh=>by rw [R.depth] at h;cases h
theorem yy (R:RF r F) {o:Oper} (fM:vz o.op=false) {a:Act} {w:World} {K:Act->World->Prop} {Q:Exit->Act->World->Prop} (h:o.wp P a w K Q):o.wpIn F 0 P a w K Q:=by
 refine ⟨λg _=>R.fn g,?_⟩
 rw [Oper.semAt_eq _ _ _ (λc e=>by rw [e] at fM;cases fM)]
 unfold Oper.wp at h
 generalize (execOp a.eval o).run P w=z at *
 cases z with
 | ok x w' =>
  cases x<;>simp only [Oper.upon,Oper.uponIn] at h ⊢<;>first|exact h|exact ⟨R.nd,R.calls h⟩|exact ⟨R.nd,R.rows h⟩|exact h.elim
 | halt x w'=>cases x<;>simp only [Oper.upon,Oper.uponIn] at h ⊢<;>exact h
theorem LD (R:RF r F) {ops:Array Oper} {Q:Exit->Act->World->Prop} (hs:ue ops.toList=true) (hQ:¬LetsOut Q):∀(l:List Nat) (a:Act) (w:World),wpOps P ops Q l a w->wpOpsIn F 0 P ops Q l a w
 | [],a,w,h=>h
 | i :: l,a,w,h=>by
  rw [wpOps_cons] at h
  rw [wpOpsIn_cons]
  unfold wpOp at h
  unfold wpOpIn
  cases ho:ops[i]? with
  | none=>rw [ho] at h;exact LD R hs hQ l a w h
  | some o =>
   rw [ho] at h
   simp only at h ⊢
   by_cases hw:Region.wanted o (yielded ops a.tmps)=true
   ·rw [if_pos hw] at h ⊢
    rcases h with h|h
    ·refine Oper.wpIn_mono (λa w h=>LD R hs hQ l a w h) (yy R ?_ h)
     have:=gM.1 hs o (by simpa using wL ho)
     cases cC:rT o.op
     ·rw [cC] at this;simpa using this
     ·cases eQ:o.op<;>rw [eQ] at cC<;>first|rfl|cases cC
    ·exact absurd h.2 hQ
   ·rw [if_neg hw] at h ⊢
    exact ⟨λg _=>R.fn g,LD R hs hQ l _ w h⟩
end am5
theorem LG:∀n,jL n=List.replicate n .un
 | 0=>rfl
 | n+1=>by rw [jL,LG n];rfl
section
variable {P:Program} {X:Ctx} {f:Fr} {s:St} {η:Nat->Value} {H:bu} {a:Act} {w:World}
theorem ake (b:List Slot) (n l:Nat):aS (b++jL n) l=aS b l:=by
 unfold aS
 by_cases h:l < b.length
 ·rw [ka h]
 ·rw [qi (by omega),LG,sY,pD (by omega)]
  split<;>rename_i e
  ·split at e
   ·simp at e;subst e;rfl
   ·cases e
  ·rfl
theorem Den.ext (D:Den f s η H a w) (n:Nat):Den f { s with b:=s.b++jL n } η H a w:=by
 have hq:aS (s.b++jL n)=aS s.b:=funext λl=>ake s.b n l
 exact { D with
  t:=by rw [hq];exact D.t
  sv:=by rw [hq];exact D.sv
  sl:=λl x hx=>by
   rw [hq]
   by_cases h:l < s.b.length
   ·rw [ka h] at hx;exact D.sl l x hx
   ·rw [qi (by omega),LG,sY] at hx
    split at hx
    ·simp at hx;subst hx;trivial
    ·cases hx
  dj:=by rw [hq];exact D.dj
  dh:=by rw [hq];exact D.dh }
structure k7 (ops:Array Oper) (s:St) (L:List (Nat × Oper × Nat)):Prop where
 get:∀x∈L,ops[x.1]?=some x.2.1
 store:∀x∈L,EA x.2.1
 un:∀x∈L,fZ x.2.1.op=true->s.b[x.2.2]?=some .un
 gH:L.Pairwise λx y=>fZ x.2.1.op=true->fZ y.2.1.op=true->x.2.2≠y.2.2
def ol (L:List (Nat × Oper × Nat)):List (Oper × Nat):=L.map (·.2)
theorem k7.tail {ops:Array Oper} {x:Nat × Oper × Nat} {L:List (Nat × Oper × Nat)} (W:k7 ops s (x :: L)) {s1:St} (h:Out X ops.toList x.2.1 x.2.2 s s1):k7 ops s1 L where
 get y hy:=W.get y (by simp [hy])
 store y hy:=W.store y (by simp [hy])
 un y hy ha:=alk h (W.un y (by simp [hy]) ha) λhx=>(fx.1 W.gH).1 y hy hx ha
 gH:=(fx.1 W.gH).2
theorem sU {ops:List Oper} {x:Oper × Nat} {L:List (Oper × Nat)} {k:St->Prop}:jW X ops (x :: L) s k↔∃s',Out X ops x.1 x.2 s s'/\jW X ops L s' k:=by
 obtain ⟨o,l⟩:=x
 exact W3 X ops o l s _
theorem HJ (C:X.Ok P) {ops:Array Oper} {k:St->Prop} (x:Nat × Oper × Nat) (B:List (Nat × Oper × Nat)):∀(A:List (Nat × Oper × Nat)) {s:St} {Ks:Tmp->List Nat},Good f s->pQ ops.toList Ks s->(∀y∈A++x :: B,uv ops.toList Ks y.2.1 y.2.2)->k7 ops s (A++x :: B) ->
  (∀p∈A,vG ops.toList p.2.1 x.2.1)->jW X ops.toList (ol (A++x :: B)) s k->jW X ops.toList (ol (x :: A++B)) s k
 | [],s,_,_,_,_,_,_,h=>h
 | p :: A,s,Ks,G,FA,hK,W,hA,h=>by
  have mp:p.2.1∈ops.toList:=by have:=W.get p (by simp);exact Array.mem_toList_iff.2 (wL this)
  have mx:x.2.1∈ops.toList:=by have:=W.get x (by simp);exact Array.mem_toList_iff.2 (wL this)
  obtain ⟨s1,h1,h2⟩:=sU.1 h
  have G1:=G.out C (W.get p (by simp)) (λha=>W.un p (by simp) ha) (W.store p (by simp)) h1
  have h3:=HJ C x B A G1 (FA.out mp (hK p (by simp)) (λf S h=>(C.sp f S h).lr) h1) (λy hy=>hK y (by simp only [BI,cJ];exact .inr hy)) (W.tail h1) (λq hq=>hA q (by simp [hq])) h2
  obtain ⟨s2,h4,h5⟩:=sU.1 h3
  have xa:=(fx.1 W.gH).1 x (by simp)
  obtain ⟨FR,h6,h7⟩:=swap G (hA p (by simp)).t ((hA p (by simp)).sep FA mp mx) ((hA p (by simp)).symm.sep FA mx mp) (λha=>W.un p (by simp) ha) (λha=>W.un x (by simp) ha) xa h1 h4
  exact sU.2 ⟨FR,h6,sU.2 ⟨s2,h7,h5⟩⟩
def qs (acc:List Nat) (o:Oper):Nat :=
 o.after.toList.foldl (λm e=>if Region.binds .any e then m ||| (2^e.on) ||| acc.getD e.on 0 else m) 0
def Mi (ops:List Oper):List Oper->List Oper->List Nat->Bool
 | [],_,_=>true
 | o :: r,pre,acc =>
  (o.after.toList.all λe=>!Region.binds .any e||Nat.blt e.on pre.length) &&
  (pre.zipIdx.all λp=>(qs acc o).testBit p.2||indep ops p.1 o) &&
  Mi ops r (pre++[o]) (acc++[qs acc o])
def Hx (ops:List Oper):Bool:=Mi ops ops [] []
def nf (ops:List Oper) (j i:Nat):Prop:=∀S:Nat->Prop,(∀r o e,ops[r]?=some o->S r->e∈o.after.toList->Region.binds .any e=true->S e.on) ->
 (∀o e,ops[i]?=some o->e∈o.after.toList->Region.binds .any e=true->S e.on)->S j
theorem Qa (acc:List Nat) (es:List Edge) (m0 j:Nat) (h:(es.foldl (λm e=>if Region.binds .any e then m ||| (2^e.on) ||| acc.getD e.on 0 else m) m0).testBit j=true) :
  m0.testBit j=true\/∃e∈es,Region.binds .any e=true/\(e.on=j\/(acc.getD e.on 0).testBit j=true):=by
 induction es generalizing m0 with
 | nil=>exact .inl h
 | cons e es ih =>
  simp only [nN] at h
  rcases ih _ h with h|⟨e',h1,h2⟩
  ·split at h
   ·rename_i hb
    simp only [Nat.testBit_or,oq] at h
    rcases h with (h|h)|h
    ·exact .inl h
    ·exact .inr ⟨e,by simp,hb,.inl (by rw [Nat.testBit_two_pow] at h;simpa using h)⟩
    ·exact .inr ⟨e,by simp,hb,.inr h⟩
   ·exact .inl h
  ·exact .inr ⟨e',by simp [h1],h2⟩
structure Ordered (ops:List Oper):Prop where
 back:∀i o e,ops[i]?=some o->e∈o.after.toList->Region.binds .any e=true->e.on < i
 apart:∀i o j p,ops[i]?=some o->ops[j]?=some p->j < i->nf ops j i\/indep ops p o=true
theorem Wp (ops:List Oper):∀(r pre:List Oper) (acc:List Nat),ops=pre++r->acc.length=pre.length ->
  (∀i j,i < pre.length->(acc.getD i 0).testBit j=true->nf ops j i) ->
  Mi ops r pre acc=true->(∀i o e,pre.length<=i->ops[i]?=some o->e∈o.after.toList->Region.binds .any e=true->e.on < i) /\
   ∀i o j p,pre.length<=i->ops[i]?=some o->ops[j]?=some p->j < i->nf ops j i\/indep ops p o=true
 | [],pre,acc,he,_,_,_=>by
  have hn:∀i o,pre.length<=i->ops[i]?=some o->False:=λi o hi ho=>by
   rw [he,x6,pD hi] at ho;cases ho
  exact ⟨λi o e hi ho=>(hn i o hi ho).elim,λi o j p hi ho=>(hn i o hi ho).elim⟩
 | o :: r,pre,acc,he,hl,hm,h=>by
  simp only [Mi,cG] at h
  obtain ⟨⟨h1,h2⟩,h3⟩:=h
  have oG:ops[pre.length]?=some o:=by rw [he];simp
  have HQ:∀e,e∈o.after.toList->Region.binds .any e=true->e.on < pre.length:=by
   intro e fW hb
   have:=gM.1 h1 e fW
   rw [hb] at this
   simpa [Ei] using this
  have Cr:∀j,(qs acc o).testBit j=true->nf ops j pre.length:=by
   intro j hj S hS hi
   rcases Qa acc o.after.toList 0 j hj with h|⟨e,h4,h5,h6⟩
   ·simp at h
   ·have AV:=hi o e oG h4 h5
    rcases h6 with h6|h6
    ·rw [<-h6];exact AV
    ·exact hm e.on j (HQ e h4 h5) h6 S hS λo' e' gU fW iK=>hS e.on o' e' gU AV fW iK
  have ih:=Wp ops r (pre++[o]) (acc++[qs acc o]) (by rw [he];simp) (by simp [hl]) (λi j hi hj=>by
   simp at hi
   by_cases aO:i < pre.length
   ·refine hm i j aO ?_
    rw [List.getD_eq_getElem?_getD,ka (by omega)] at hj
    rw [List.getD_eq_getElem?_getD];exact hj
   ·have:i=pre.length:=by omega
    subst this
    refine Cr j ?_
    rw [List.getD_eq_getElem?_getD,qi (by omega)] at hj
    simpa [hl] using hj) h3
  simp only [List.length_append,ql,Ef] at ih
  refine ⟨λi o' e hi gU fW iK=>?_,λi o' j p hi gU hp hj=>?_⟩
  ·by_cases nT:i=pre.length
   ·subst nT
    rw [oG] at gU;simp at gU;subst gU
    exact HQ e fW iK
   ·exact ih.1 i o' e (by omega) gU fW iK
  ·by_cases nT:i=pre.length
   ·subst nT
    rw [oG] at gU;simp at gU;subst gU
    have ej:pre[j]?=some p:=by rw [he,ka hj] at hp;exact hp
    have:=gM.1 h2 (p,j) (by rw [Es];simpa using ej)
    simp only [oq] at this
    exact this.imp (Cr j) id
   ·exact ih.2 i o' j p (by omega) gU hp hj
theorem VP {ops:List Oper} (h:Hx ops=true):Ordered ops:=by
 obtain ⟨h1,h2⟩:=Wp ops ops [] [] rfl rfl (λi j hi=>by simp at hi) h
 exact ⟨λi o e=>h1 i o e (cg _),λi o j p=>h2 i o j p (cg _)⟩
theorem Y5 (C:X.Ok P) {ops:Array Oper} (O:Ordered ops.toList) {Q:Exit->Act->World->Prop} {k:St->Prop} (hk:∀s' η' H' a' w',Den f s' η' H' a' w'->k s'->Q .normal a' w') :
  ∀(n:Nat) (L:List (Nat × Oper × Nat)) {cL:Array Bool} {Ks:Tmp->List Nat} {s:St} {η:Nat->Value} {H:bu} {a:Act} {w:World},L.length=n->k7 ops s L->L.Pairwise (λx y=>x.1 < y.1) ->
   (∀i,i < ops.size->(cL.getD i true=false↔∃x∈L,x.1=i))->(∀i,cL.getD i false=true\/cL.getD i true=false\/ops.size<=i) ->
   (∀i o e,ops[i]?=some o->cL.getD i false=true->e∈o.after.toList->Region.binds .any e=true->cL.getD e.on false=true) ->
   pQ ops.toList Ks s->(∀y∈L,uv ops.toList Ks y.2.1 y.2.2)->Den f s η H a w->jW X ops.toList (ol L) s k->wpAny P .any ops Q n cL a w:=by
 intro n
 induction n with
 | zero =>
  intro L cL Ks s η H a w hn W kp mX eG yz FA hK D h
  have:L=[]:=iV hn
  subst this
  refine ⟨?_,hk s η H a w D h⟩
  rw [Er]
  intro i hi
  obtain ⟨h0,o,ho,_⟩:=mem_ready.1 hi
  have aO:=(fQ.1 ho).1
  obtain ⟨x,hx,_⟩:=(mX i aO).1 h0
  cases hx
 | succ n ih =>
  intro L cL Ks s η H a w hn W kp mX eG yz FA hK D h
  constructor
  ·intro hr
   cases L with
   | nil=>simp at hn
   | cons x L =>
    have hx:=W.get x (by simp)
    have aO:=(fQ.1 hx).1
    have:x.1∈Region.ready .any ops cL:=by
     refine mem_ready.2 ⟨(mX x.1 aO).2 ⟨x,by simp,rfl⟩,x.2.1,hx,λe he hb=>?_⟩
     have w8:=O.back x.1 x.2.1 e (by simpa using hx) (by simpa using he) hb
     rcases eG e.on with h1|h1|h1
     ·exact h1
     ·obtain ⟨y,hy,AW⟩:=(mX e.on (by omega)).1 h1
      rcases cJ.1 hy with rfl|hy
      ·omega
      ·have:=(fx.1 kp).1 y hy;omega
     ·omega
    rw [hr] at this
    cases this
  ·intro i hi
   obtain ⟨h0,o,ho,vH⟩:=mem_ready.1 hi
   have aO:=(fQ.1 ho).1
   obtain ⟨x,hx,rfl⟩:=(mX i aO).1 h0
   obtain ⟨A,B,rfl⟩:=Ec hx
   have jf:=W.get x (by simp)
   rw [ho] at jf
   simp at jf
   have ju:=jO.1 kp
   have hA:∀p∈A,vG ops.toList p.2.1 x.2.1:=by
    intro p hp
    have Nz:p.1 < x.1:=ju.2.2 p hp x (by simp)
    have uN:=W.get p (by simp [hp])
    rcases O.apart x.1 x.2.1 p.1 p.2.1 (by rw [<-jf];simpa using ho) (by simpa using uN) Nz with hF|hi
    ·
     have:=hF (λr=>cL.getD r false=true) (λr o' e hr hS he hb=>yz r o' e (by simpa using hr) hS he hb)
      (λo' e gU he hb=>by
       have:o'=o:=by
        have h1:ops[x.1]?=some o':=by simpa using gU
        rw [ho] at h1;simpa using h1.symm
       subst this
       exact vH e (by simpa using he) hb)
     have kF:=(mX p.1 (fQ.1 uN).1).2 ⟨p,by simp [hp],rfl⟩
     have CJ:p.1 < cL.size:=by
      rcases pG p.1 cL.size with h|h
      ·exact h
      ·simp [BQ h] at this
     simp [CJ] at this kF
     rw [this] at kF;cases kF
    ·exact Kz hi
   have h2:=HJ C x B A ⟨η,H,a,w,D⟩ FA hK W hA h
   obtain ⟨s1,h3,h4⟩:=sU.1 h2
   have lV:(A++x :: B).Perm (x :: (A++B)):=G7
   have W':k7 ops s (x :: (A++B)):={
    get:=λy hy=>W.get y (lV.mem_iff.2 hy)
    store:=λy hy=>W.store y (lV.mem_iff.2 hy)
    un:=λy hy=>W.un y (lV.mem_iff.2 hy)
    gH:=(lV.pairwise_iff (λ{a b} h h1 h2=>(h h2 h1).symm)).1 W.gH }
   refine Hf C D (by rw [ho,jf]) (λha=>W.un x (by simp) ha) (W.store x (by simp)) h3 λη' H' a' w' D'=>?_
   have Im:x.1 < cL.size:=by
    rcases pG x.1 cL.size with h|h
    ·exact h
    ·simp [BQ h] at h0
   have sd:∀j (d:Bool),(cL.setIfInBounds x.1 true).getD j d=if x.1=j then true else cL.getD j d:=by
    intro j d
    by_cases hj:x.1=j
    ·subst hj;simp [Im]
    ·rw [getD_set_ne d hj,if_neg hj]
   refine ih (A++B) (by simp at hn ⊢;omega) (W'.tail h3) ?_ ?_ ?_ ?_ (FA.out (Array.mem_toList_iff.2 (wL (W.get x (by simp)))) (hK x (by simp)) (λf S h=>(C.sp f S h).lr) h3) (λy hy=>hK y (lV.mem_iff.2 (by simp only [cJ];exact .inr hy))) D' h4
   ·have:=ju
    exact jO.2 ⟨ju.1,(fx.1 ju.2.1).2,λp hp q hq=>ju.2.2 p hp q (by simp [hq])⟩
   ·intro j hj
    rw [sd]
    by_cases jD:x.1=j
    ·subst jD
     simp only [if_true]
     refine ⟨λh=>(by cases h),λ⟨y,hy,AX⟩=>?_⟩
     exfalso
     rcases dD.1 hy with hy|hy
     ·have:=ju.2.2 y hy x (by simp);omega
     ·have:=(fx.1 ju.2.1).1 y hy;omega
    ·rw [if_neg jD,mX j hj]
     constructor
     ·rintro ⟨y,hy,rfl⟩
      rcases dD.1 hy with hy|hy
      ·exact ⟨y,by simp [hy],rfl⟩
      ·rcases cJ.1 hy with rfl|hy
       ·exact absurd rfl jD
       ·exact ⟨y,by simp [hy],rfl⟩
     ·rintro ⟨y,hy,rfl⟩
      rcases dD.1 hy with hy|hy
      ·exact ⟨y,by simp [hy],rfl⟩
      ·exact ⟨y,by simp [hy],rfl⟩
   ·intro j
    rw [sd,sd]
    by_cases jD:x.1=j
    ·simp [jD]
    ·rw [if_neg jD,if_neg jD];exact eG j
   ·intro j o' e hj hl he hb
    rw [sd] at hl ⊢
    split at hl
    ·rename_i jD
     subst jD
     rw [ho] at hj;simp at hj;subst hj
     split
     ·rfl
     ·exact vH e (by simpa using he) hb
    ·split
     ·rfl
     ·exact yz j o' e hj hl he hb
def Mj (ops:List Oper) (K:Tmp->List Nat) (x:Tmp) (A:List Tmp):List Tmp->Bool
 | []=>true
 | y :: r=>(match ld ops 8 y with
  | none=>true
  | some B=>match vP A B with
   | true=>vP (K x) (K y)
   | false=>true)&&Mj ops K x A r
def Ml (ops:List Oper) (K:Tmp->List Nat) (x:Tmp) (A:List Tmp):List Oper->Bool
 | []=>true
 | j :: r=>(match gF j.op with
  | some ys=>(match Cc ops A ys with
   | true=>Mj ops K x A ys
   | false=>true)
  | none=>true)&&Ml ops K x A r
def Ax (ops:List Oper) (K:Tmp->List Nat):List Oper->Bool
 | []=>true
 | p :: r=>(match oI p.op with
  | true=>(match ko p.op with
   | some x=>(match ld ops 8 x with
    | none=>true
    | some A=>Ml ops K x A ops)
   | none=>true)
  | false=>true)&&Ax ops K r
theorem Xc {ops:List Oper} {A:List Tmp}:∀{ys:List Tmp},(∀y∈ys,∃B,ld ops 8 y=some B/\vP A B=true)->Cc ops A ys=true
 | [],_=>rfl
 | y :: r,h=>by
  obtain ⟨B,h1,h2⟩:=h y (by simp)
  simp only [Cc,h1,h2,Ha]
  exact Xc λz hz=>h z (by simp [hz])
theorem Ya {ops:List Oper} {K:Tmp->List Nat} {x:Tmp} {A:List Tmp}:∀{ys:List Tmp},Mj ops K x A ys=true->(∀y∈ys,∃B,ld ops 8 y=some B/\vP A B=true)->∀y∈ys,∀l∈K x,l∉K y
 | [],_,_,y,hy=>by cases hy
 | z :: r,h,hd,y,hy=>by
  simp only [Mj,cG] at h
  rcases cJ.1 hy with rfl|hy
  ·obtain ⟨B,h1,h2⟩:=hd y (by simp)
   have h3:=h.1
   simp only [h1,h2] at h3
   exact Y1 h3
  ·exact Ya h.2 (λz hz=>hd z (by simp [hz])) y hy
theorem Yb {ops:List Oper} {K:Tmp->List Nat} {x:Tmp} {A:List Tmp}:∀{r:List Oper},Ml ops K x A r=true->∀j∈r,∀ys,gF j.op=some ys->(∀y∈ys,∃B,ld ops 8 y=some B/\vP A B=true) ->
  ∀y∈ys,∀l∈K x,l∉K y
 | [],_,j,hj,_,_,_=>by cases hj
 | k :: r,h,j,hj,ys,hy,hd=>by
  simp only [Ml,cG] at h
  rcases cJ.1 hj with rfl|hj
  ·have h1:=h.1
   rw [hy] at h1
   simp only [Xc hd] at h1
   exact Ya h1 hd
  ·exact Yb h.2 j hj ys hy hd
theorem Hy {ops:List Oper} {K:Tmp->List Nat}:∀{r:List Oper},Ax ops K r=true->∀p∈r,∀j∈ops,∀x ys,FO ops p j x ys->oI p.op=true->∀y∈ys,∀l∈K x,l∉K y
 | [],_,p,hp,_,_,_,_,_,_=>by cases hp
 | k :: r,h,p,hp,j,hj,x,ys,F,hw=>by
  simp only [Ax,cG] at h
  rcases cJ.1 hp with rfl|hp
  ·have h1:=h.1
   rw [hw] at h1
   simp only [F.p] at h1
   obtain ⟨A,hA⟩:=F.ax
   rw [hA] at h1
   exact Yb h1 j hj ys F.j (F.d A hA)
  ·exact Hy h.2 p hp j hj x ys F hw
def aa2 (ops:List Oper) (s:St):Bool:=Ax ops (qY ops (eS ops s.b.length) s) ops
def items (ops:List Oper) (n:Nat):List (Nat × Oper × Nat):=(eS ops n).zipIdx.map λp=>(p.2,p.1.1,p.1.2)
theorem OQ:∀(ops:List Oper) (n:Nat),(eS ops n).length=ops.length
 | [],n=>rfl
 | o :: r,n=>by simp [eS,OQ r]
theorem Qb:∀(ops:List Oper) (n i:Nat) (p:Oper × Nat),(eS ops n)[i]?=some p->ops[i]?=some p.1
 | [],n,i,p,h=>by simp [eS] at h
 | o :: r,n,0,p,h=>by simp [eS] at h;subst h;rfl
 | o :: r,n,i+1,p,h=>by simp only [eS,Pf] at h ⊢;exact Qb r _ i p h
theorem Qy:∀(ops:List Oper) (n:Nat),∀p∈eS ops n,n<=p.2/\(fZ p.1.op=true->p.2 < n+pM ops)
 | [],n,p,h=>by simp [eS] at h
 | o :: r,n,p,h=>by
  simp only [eS,cJ] at h
  rcases h with rfl|h
  ·refine ⟨fb _,λha=>?_⟩
   simp only at ha
   simp only [pM,ha];omega
  ·have:=Qy r _ p h
   simp only [pM]
   cases hq:fZ o.op<;>rw [hq] at this<;>simp only at this ⊢<;>exact ⟨by omega,λha=>by have:=this.2 ha;omega⟩
theorem Xd:∀(ops:List Oper) (n:Nat),(eS ops n).Pairwise λx y=>fZ x.1.op=true->fZ y.1.op=true->x.2≠y.2
 | [],n=>by simp [eS]
 | o :: r,n=>by
  simp only [eS,fx]
  refine ⟨λy hy hx _=>?_,Xd r _⟩
  rw [hx] at hy
  have:=(Qy r _ y hy).1
  simp only at this ⊢
  omega
theorem ya (ops:List Oper) (n:Nat):ol (items ops n)=eS ops n:=by
 unfold ol items
 rw [KX]
 apply qS
 intro i
 simp only [ml,List.getElem?_zipIdx]
 cases (eS ops n)[i]?<;>simp
theorem tU (ops:List Oper) (n:Nat):(items ops n).map (·.1)=List.range ops.length:=by
 unfold items
 rw [KX]
 apply qS
 intro i
 simp only [ml,List.getElem?_zipIdx]
 by_cases h:i < ops.length
 ·have h2:i < (eS ops n).length:=by rw [OQ];exact h
  simp [h,h2]
 ·have h2:(eS ops n).length<=i:=by rw [OQ];omega
  simp [h2,show ops.length<=i by omega]
theorem O3 {ops:Array Oper} (hs:ue ops.toList=true) (s:St):k7 ops { s with b:=s.b++jL (pM ops.toList) } (items ops.toList s.b.length):=by
 have mem:∀x∈items ops.toList s.b.length,(eS ops.toList s.b.length)[x.1]?=some x.2:=by
  intro x hx
  unfold items at hx
  obtain ⟨p,hp,rfl⟩:=iM.1 hx
  rw [Es] at hp
  simpa using hp
 constructor
 ·intro x hx
  have:=Qb _ _ _ _ (mem x hx)
  simpa using this
 ·intro x hx he
  have:=Qb _ _ _ _ (mem x hx)
  have h2:=gM.1 hs x.2.1 (cf this)
  rw [he] at h2
  simpa using h2
 ·intro x hx ha
  have hg:=Qy ops.toList s.b.length x.2 (cf (mem x hx))
  have h2:=hg.2 ha
  simp only
  rw [qi hg.1,LG,sY,if_pos (by omega)]
 ·unfold items
  rw [qT]
  have:((eS ops.toList s.b.length).zipIdx).Pairwise λx y=>fZ x.1.1.op=true->fZ y.1.1.op=true->x.1.2≠y.1.2:=by
   have h:=Xd ops.toList s.b.length
   rw [<-List.zipIdx_map_fst 0 (eS ops.toList s.b.length),qT] at h
   exact h
  exact this
def uO (K:Act->World->Prop):Exit->Act->World->Prop
 | .normal,a,w=>K a w
 | _,_,_=>False
theorem Hz {K:Act->World->Prop}:¬LetsOut (uO K):=λ⟨_,_,h⟩=>h
end
structure Ext (r:Bool) (f f':Fr):Prop where
 h0:f'.H0=f.H0
 w0:f'.w0=f.w0
 sS:f'.sS=f.sS
 sV:f'.sV=f.sV
 gr:∃ms:List Nat,f'.dS=ms++f.dS/\ms.Nodup/\(∀D∈ms,f.F D=none/\f'.F D=some (.deferred (some []))/\f.H0 D=none)/\(∀b,b∉ms->f'.F b=f.F b)/\(r=true->ms=[])
theorem Ext.refl (r:Bool) (f:Fr):Ext r f f:=⟨rfl,rfl,rfl,rfl,[],rfl,zA,λ_ h=>by simp at h,λ_ _=>rfl,λ_=>rfl⟩
theorem Ext.trans {r:Bool} {f g h:Fr} (a:Ext r f g) (b:Ext r g h):Ext r f h:=by
 obtain ⟨ms,a1,a2,a3,a4,a5⟩:=a.gr
 obtain ⟨ns,b1,b2,b3,b4,b5⟩:=b.gr
 have hd:∀D∈ns,D∉ms:=λD h1 h2=>by
  have:=(a3 D h2).2.1
  rw [(b3 D h1).1] at this;cases this
 refine ⟨b.h0.trans a.h0,b.w0.trans a.w0,b.sS.trans a.sS,b.sV.trans a.sV,ns++ms,by rw [b1,a1,List.append_assoc],?_,?_,?_,λhr=>by rw [b5 hr,a5 hr];rfl⟩
 ·rw [KS]
  exact ⟨b2,a2,λx hx y hy e=>hd x hx (e ▸ hy)⟩
 ·intro D hD
  rcases dD.1 hD with h1|h1
  ·refine ⟨?_,(b3 D h1).2.1,by rw [<-a.h0];exact (b3 D h1).2.2⟩
   rw [<-a4 D (hd D h1)];exact (b3 D h1).1
  ·refine ⟨(a3 D h1).1,?_,(a3 D h1).2.2⟩
   rw [b4 D (λh2=>hd D h2 h1)];exact (a3 D h1).2.1
 ·intro b hb
  rw [b4 b (λh=>hb (vv _ h)),a4 b (λh=>hb (zO _ h))]
theorem Ext.eq {f f':Fr} (h:Ext true f f'):f'=f:=by
 obtain ⟨ms,a1,_,_,a4,a5⟩:=h.gr
 have:=a5 rfl
 subst this
 obtain ⟨F,H0,w0,sS,sV,dS⟩:=f
 obtain ⟨F',H0',w0',sS',sV',dS'⟩:=f'
 have e1:F'=F:=funext λb=>a4 b (by simp)
 have e2:=h.h0;have e3:=h.w0;have e4:=h.sS;have e5:=h.sV
 simp at a1 e2 e3 e4 e5
 subst e1;subst e2;subst e3;subst e4;subst e5;subst a1
 rfl
def pd (r:Bool) (f:Fr) (k:Exit->St->Prop):Exit->Act->World->Prop :=
 λe a' w'=>∃f' s' η' H',Ext r f f'/\Den f' s' η' H' a' w'/\k e s'
theorem pd.up {r:Bool} {f f':Fr} {k:Exit->St->Prop} (h:Ext r f f') {e:Exit} {a:Act} {w:World} (p:pd r f' k e a w):pd r f k e a w:=by
 obtain ⟨g,s',η',H',h1,h2,h3⟩:=p
 exact ⟨g,s',η',H',h.trans h1,h2,h3⟩
theorem pd.of {r:Bool} {f:Fr} {k:Exit->St->Prop} {e:Exit} {s:St} {η:Nat->Value} {H:bu} {a:Act} {w:World} (D:Den f s η H a w) (h:k e s):pd r f k e a w:=⟨f,s,η,H,Ext.refl r f,D,h⟩
theorem RF.inRound {r:Bool} {F:Fence} (R:RF r F) (l:Nat):RF true (F.inRound l):=by
 cases r
 ·have R:F=_:=R;subst R;exact ⟨l,rfl⟩
 ·obtain ⟨m,rfl⟩:=R;exact ⟨l,rfl⟩
section
variable {F:Fence} {n:Nat} {P:Program} {Q:Exit->Act->World->Prop} {a:Act} {w:World}
theorem wpIn_loop_ghost {c:Code} (I:Nat->Act->World->Prop) (n₀:Nat) (h₀:I n₀ a w)
  (round:∀m a w,I m a w->c.wpIn F n P (Exit.then (λa' w'=>∃n',n' < m/\I n' a' w') Q) a w):(Code.loop c).wpIn F n P Q a w:=by
 refine wpIn_loop (λa w=>∃n,I n a w) (λa w=>leastOf (λn=>I n a w)) ⟨n₀,h₀⟩ ?_
 intro a w hI
 refine wpIn_mono (round _ a w (leastOf_spec hI).1) ?_
 intro e a' w' hq
 cases e with
 | normal =>
  obtain ⟨n',aO,TE⟩:=hq
  exact show (∃n,I n a' w')/\leastOf (λn=>I n a' w') < leastOf (λn=>I n a w) from ⟨⟨n',TE⟩,Nat.lt_of_le_of_lt ((leastOf_spec ⟨n',TE⟩).2 n' TE) aO⟩
 | exit id=>exact hq
 | goto l=>exact hq
 | ret=>exact hq
 | panic ch=>exact hq
 | outgrown=>exact hq
variable {b:Frame} {k:List Item} {cs:List Frame}
theorem DV {c:Code}:step P (lone (b.atR a (.code (.scope c) :: k)) cs w)=.next (lone (b.atR a (.code c :: .inScope c :: k)) cs w) :=
 step_lone_go (by simp [stepG,stepG.exec,Frame.atR])
theorem agr {c:Code}:step P (lone (b.atR a (.inScope c :: k)) cs w)=.next (lone (b.atR a k) cs w) :=
 step_lone_go (by simp [stepG,stepG.exec,Frame.atR])
theorem agj {c:Code} (h:c.wpIn F n P (Exit.noGoto Q) a w):(Code.scope c).wpIn F n P Q a w:=by
 intro b k cs hro hb hr
 have h0:(lone (b.atR a (.code (.scope c) :: k)) cs w).fenced P F:=fenced_calm hb hr rfl
 obtain ⟨e,a₁,w₁,hq,Fc⟩:=h b (.inScope c :: k) cs hro hb hr
 cases e with
 | normal=>exact ⟨.normal,a₁,w₁,hq,.head h0 DV (StepsIn.trans Fc (.one (fenced_calm hb hr rfl) agr))⟩
 | exit id =>
  have hx:exitTo id (.inScope c :: k)=exitTo id k:=by simp [exitTo]
  exact ⟨.exit id,a₁,w₁,hq,λk' hk=>.head h0 DV (Fc.1 k' (by rw [hx];exact hk)),
   λpn hk=>let ⟨k₁,h1,h2⟩:=Fc.2 pn (by rw [hx];exact hk);⟨k₁,h1,.head h0 DV h2⟩⟩
 | goto l=>exact hq.elim
 | ret=>exact ⟨_,a₁,w₁,hq,.of_steps (.one h0 DV) Fc⟩
 | panic ch=>exact ⟨_,a₁,w₁,hq,.of_steps (.one h0 DV) Fc⟩
 | outgrown=>exact ⟨_,a₁,w₁,hq,.of_steps (.one h0 DV) Fc⟩
end
def An:List Nat->World->World
 | [],w=>w
 | D :: r,w=>An r (w.putObj D (.deferred none))
theorem Kv:∀{ms:List Nat} {w:World} {b:Nat},b∉ms->(An ms w).heap[b]?=w.heap[b]?
 | [],w,b,_=>rfl
 | D :: r,w,b,h=>by
  simp only [cJ,not_or] at h
  simp only [An]
  rw [Kv h.2,World.putObj_heap_other h.1]
theorem KA:∀(ms:List Nat) (w:World),(An ms w).os=w.os/\(An ms w).tape=w.tape/\(An ms w).output=w.output
 | [],w=>⟨rfl,rfl,rfl⟩
 | D :: r,w=>KA r (w.putObj D (.deferred none))
theorem VQ {F:Fence} {n:Nat} {P:Program} {fn:Func} {tmps:Array Value} {R:Ending->World->Prop}:∀{ms:List Nat} {w:World},
  (∀D∈ms,w.heap[D]?=some (.deferred (some [])))->ms.Nodup->LeavesInM F n P fn tmps R [] .returning (An ms w)->LeavesInM F n P fn tmps R (ms.map ES) .returning w
 | [],w,_,_,h=>h
 | D :: r,w,hm,hn,h=>by
  rw [x5] at hn
  refine ⟨by simp,.inl ⟨D,w.putObj D (.deferred none),rfl,run_takeDeferred (hm D (by simp)),?_⟩⟩
  refine VQ (λD' h'=>?_) hn.2 h
  rw [World.putObj_heap_other (λe=>hn.1 (by rw [<-e];exact h'))]
  exact hm D' (by simp [h'])
section
variable {P:Program} {f f':Fr} {s:St} {η:Nat->Value} {H:bu} {a:Act} {w:World}
theorem Den.shut (E:Ext false f f') (hd:f.dS=[]) (D:Den f' s η H a w):∃ms,a.defers=ms.map ES/\ms.Nodup/\(∀M∈ms,w.heap[M]?=some (.deferred (some []))) /\
  ∀ts,aP η (aS s.b) H s.t ts->Den f s η H ⟨ts.toArray,[]⟩ (An ms w):=by
 obtain ⟨ms,a1,a2,a3,a4,_⟩:=E.gr
 rw [hd,x6] at a1
 have hF:∀b,f'.F b=none->b∉ms/\f.F b=none:=λb hb=>by
  by_cases h:b∈ms
  ·rw [(a3 b h).2.1] at hb;cases hb
  ·exact ⟨h,by rw [<-a4 b h];exact hb⟩
 have hFs:∀b o,f.F b=some o->b∉ms:=λb o hb h=>by rw [(a3 b h).1] at hb;cases hb
 have hHs:∀b o,H b=some o->b∉ms:=λb o hb h=>by
  rcases D.hf b (by rw [hb];simp) with h1|h1
  ·rw [E.h0] at h1;exact h1 (a3 b h).2.2
  ·rw [(a3 b h).2.1] at h1;cases h1
 refine ⟨ms,by rw [D.d,a1],a2,λM hM=>D.fw M _ (a3 M hM).2.1,λts ht=>?_⟩
 exact {
  t:=ht
  sv:=by rw [<-E.sS,<-E.sV];exact D.sv
  d:=by rw [hd];rfl
  h0:=by rw [<-E.h0];exact D.h0
  hw:=λb o hb=>by rw [Kv (hHs b o hb)];exact D.hw b o hb
  fw:=λb o hb=>by rw [Kv (hFs b o hb)];exact D.fw b o (by rw [a4 b (hFs b o hb)];exact hb)
  hf:=λb hb=>by
   rcases D.hf b hb with h1|h1
   ·rw [E.h0] at h1;exact .inl h1
   ·exact .inr (hF b h1).2
  sl:=λl x hx=>by
   have hs:=D.sl l x hx
   by_cases cV:x.live=.live
   ·refine hs.kept (iI.refl _ _) (bu.le.refl _) rfl λb hb=>?_
    exact Kv (hF b (D.dh l b (by rw [cx hx];exact cV) hb).2).1
   ·cases x with
    | un=>trivial
    | dead=>trivial
    | fix=>exact absurd rfl cV
    | dyn=>exact absurd rfl cV
    | fj=>exact absurd rfl cV
    | map=>exact absurd rfl cV
    | iter=>exact absurd rfl cV
    | eD=>exact absurd rfl cV
  dj:=D.dj
  dh:=λl b h1 h2=>⟨(D.dh l b h1 h2).1,(hF b (D.dh l b h1 h2).2).2⟩
  os:=by rw [(KA ms w).1,D.os,E.w0]
  tape:=by rw [(KA ms w).2.1,D.tape,E.w0]
  out:=by rw [(KA ms w).2.2,D.out,E.w0] }
theorem Den.mark (D:Den f s η H a w):Den { f with F:=λb=>if b=w.heap.size then some (.deferred (some [])) else f.F b,dS:=w.heap.size :: f.dS } s η H { a with defers:=ES w.heap.size :: a.defers } (w.alloc (.deferred (some []))) /\
  Ext false f { f with F:=λb=>if b=w.heap.size then some (.deferred (some [])) else f.F b,dS:=w.heap.size :: f.dS }:=by
 have D1:=D.grown (World.grownBy_alloc w (.deferred (some [])) none)
 have sx:∀b o,w.heap[b]?=some o->b≠w.heap.size:=λb o h e=>by
  have:=(fQ.1 h).1
  omega
 have hF:f.F w.heap.size=none:=by
  cases h:f.F w.heap.size with
  | none=>rfl
  | some o=>exact absurd rfl (sx _ _ (D.fw _ _ h))
 have hH:H w.heap.size=none:=by
  cases h:H w.heap.size with
  | none=>rfl
  | some o=>exact absurd rfl (sx _ _ (D.hw _ _ h))
 have NA:f.H0 w.heap.size=none:=by
  cases h:f.H0 w.heap.size with
  | none=>rfl
  | some o=>have:=D.h0 _ _ h;rw [hH] at this;cases this
 refine ⟨{ D1 with
  d:=by simp [D.d]
  fw:=λb o h=>by
   simp only at h
   split at h
   ·rename_i e;subst e;cases h;exact World.alloc_heap_new w _
   ·exact D1.fw b o h
  hf:=λb hb=>by
   rcases D1.hf b hb with h|h
   ·exact .inl h
   ·right
    simp only
    rw [if_neg ?_];exact h
    intro e;subst e;exact hb hH
  dh:=λl b h1 h2=>by
   have:=D1.dh l b h1 h2
   refine ⟨this.1,?_⟩
   simp only
   rw [if_neg ?_];exact this.2
   intro e
   have:=D.BY h1 h2
   omega
  os:=D1.os,tape:=D1.tape,out:=D1.out },rfl,rfl,rfl,rfl,[w.heap.size],rfl,by simp,?_,?_,λh=>by cases h⟩
 ·intro M hM
  simp at hM;subst hM
  exact ⟨hF,by simp,NA⟩
 ·intro b hb
  simp at hb
  simp [hb]
theorem Den.MK (D:Den f s η H a w) {l bl:Nat} {x y:Slot} (hx:s.b[l]?=some x) (C3:x.live=.live) (hy:y.live=.live) (hb:cy (η l)=some bl) (o:Obj)
  (iY:iI η η (aS s.b) (aS (s.b.set l y))->jQ η (aS (s.b.set l y)) H (w.putObj bl o) l y):Den f { s with b:=s.b.set l y } η H a (w.putObj bl o):=by
 have hq:aS s.b l=.live:=by rw [cx hx];exact C3
 exact D.change (w':=w.putObj bl o) (η':=η) (l:=l) (x:=y) none rfl (λ_ _=>rfl) (.inr ⟨hq,rfl,rfl⟩) hy (λ_ h=>by cases h) (some bl) (OP w bl o)
  (λk hk=>by cases hk;exact .inr ⟨hq,hb⟩) (λb iK=>.inr (.inr ⟨hq,iK⟩)) iY
theorem Den.drop (D:Den f s η H a w) {l bl:Nat} (hq:aS s.b l=.live) (hb:cy (η l)=some bl) (o:Obj):Den f { s with b:=s.b.set l .dead } η H a (w.putObj bl o):=by
 obtain ⟨x,hx,C3⟩:=td hq
 have aO:=(a7.1 hx).1
 have TF:∀k,aS (s.b.set l .dead) k=if k=l then .dead else aS s.b k:=λk=>s8 k aO
 have hT:iI η η (aS s.b) (aS (s.b.set l .dead)):=λk=>by
  cases hk:aS s.b k with
  | un=>trivial
  | dead=>simp only [TF];split;rfl;exact hk
  | live =>
   simp only [TF]
   split
   ·exact .inr rfl
   ·exact .inl ⟨hk,trivial⟩
 have o8:∀k,aS (s.b.set l .dead) k=.live->aS s.b k=.live/\k≠l:=λk hk=>by
  rw [TF] at hk
  split at hk
  ·cases hk
  ·exact ⟨hk,by assumption⟩
 have own:=D.dh l bl hq hb
 have ne:∀b,b≠bl->(w.putObj bl o).heap[b]?=w.heap[b]?:=λb h=>World.putObj_heap_other h
 exact {
  t:=gC hT (bu.le.refl _) _ _ D.t
  sv:=gC hT (bu.le.refl _) _ _ D.sv
  d:=D.d
  h0:=D.h0
  hw:=λb o' h=>by rw [ne b (λe=>by subst e;rw [own.1] at h;cases h)];exact D.hw b o' h
  fw:=λb o' h=>by rw [ne b (λe=>by subst e;rw [own.2] at h;cases h)];exact D.fw b o' h
  hf:=D.hf
  sl:=λk y hy=>by
   by_cases cT:k=l
   ·subst cT
    have hy:(s.b.set k .dead)[k]?=some y:=hy
    rw [pC aO] at hy
    cases hy;trivial
   ·have hy:(s.b.set l .dead)[k]?=some y:=hy
    rw [gK (λe=>cT e.symm)] at hy
    have hs:=D.sl k y hy
    by_cases cV:y.live=.live
    ·refine hs.kept hT (bu.le.refl _) rfl λb h=>ne b λe=>?_
     subst e
     exact cT (D.dj k l b (by rw [cx hy];exact cV) hq h hb)
    ·cases y with
     | un=>trivial
     | dead=>trivial
     | fix=>exact absurd rfl cV
     | dyn=>exact absurd rfl cV
     | fj=>exact absurd rfl cV
     | map=>exact absurd rfl cV
     | iter=>exact absurd rfl cV
     | eD=>exact absurd rfl cV
  dj:=λk k' b h1 h2=>D.dj k k' b (o8 k h1).1 (o8 k' h2).1
  dh:=λk b h1=>D.dh k b (o8 k h1).1
  os:=D.os
  tape:=D.tape
  out:=D.out }
end
abbrev FP:=Option Nat × List Nat
def Ao (s:St):List Tmp->List Nat
 | []=>[]
 | t :: r=>match gZ s t with
  | some l=>l :: Ao s r
  | none=>Ao s r
def fp (o:Oper) (s:St):FP :=
 (
  match oI o.op with
   | true=>(match ko o.op with
    | some x=>gZ s x
    | none=>none)
   | false=>none,
  match gF o.op with
   | some ys=>Ao s ys
   | none=>[])
def Fe:Option Nat->List Nat->Bool
 | none,_=>true
 | some l,ys=>ys.all λy=>!Nat.beq l y
def Ff (f g:FP):Bool:=Fe f.1 g.2&&Fe g.1 f.2
def qw (p j:Oper):Bool:=oI p.op&&tw j.op
def known (p j:Oper):Bool:=!qw p j||((ko p.op).isSome&&(gF j.op).isSome)
def LH (ops:List Oper) (p j:Oper):Bool:=LC ops p j&&(known p j&&known j p)
theorem Xe {s:St}:∀{ys:List Tmp} {y:Tmp} {l:Nat},y∈ys->gZ s y=some l->l∈Ao s ys
 | [],y,l,h,_=>by cases h
 | t :: r,y,l,h,hl=>by
  unfold Ao
  rcases cJ.1 h with rfl|h
  ·rw [hl];simp
  ·have:=Xe h hl
   split
   ·exact pE _ this
   ·exact this
theorem V6 {s s':St}:∀{ys:List Tmp},(∀y∈ys,gZ s y=gZ s' y)->Ao s ys=Ao s' ys
 | [],_=>rfl
 | t :: r,h=>by
  unfold Ao
  rw [h t (by simp),V6 λy hy=>h y (by simp [hy])]
theorem akf {l:Nat} {ys:List Nat} (h:Fe (some l) ys=true):l∉ys:=λhl=>by
 have:=gM.1 h l hl
 simp at this
theorem Sep.of {p j:Oper} {s:St} (hk:known p j=true) (h:qw p j=true->Fe (fp p s).1 (fp j s).2=true):Sep p j s:=λhw=>by
 cases hr:tw j.op with
 | false=>exact .inl rfl
 | true =>
  right
  have hc:qw p j=true:=by simp [qw,hw,hr]
  have h:=h hc
  simp only [known,hc,Bool.not_true,Bool.false_or,cG] at hk
  obtain ⟨x,hx⟩:=sX.1 hk.1
  obtain ⟨ys,hy⟩:=sX.1 hk.2
  refine ⟨x,ys,hx,hy,λl hl y hm NB=>?_⟩
  simp only [fp,hw,hx,hy,hl] at h
  exact akf h (Xe hm NB)
theorem Xf {op:Op} {ys:List Tmp} (h:gF op=some ys):∀y∈ys,y∈kJ op:=by
 have one:∀{x:Operand} {t:Tmp},x=.tmp t->x∈op.operands->t∈kJ op:=λ{x t} hx hm =>
  Eb.2 ⟨x,by simpa using hm,by rw [hx]⟩
 cases op<;>try (cases h;done)
 case load ty x=>cases x<;>simp [gF] at h;subst h;intro y hy;simp at hy;subst hy;exact one rfl (by simp [Op.operands])
 case store ty x z=>cases x<;>simp [gF] at h;subst h;intro y hy;simp at hy;subst hy;exact one rfl (by simp [Op.operands])
 case lookup ty x z ok=>cases x<;>simp [gF] at h;subst h;intro y hy;simp at hy;subst hy;exact one rfl (by simp [Op.operands])
 case entry x=>cases x<;>simp [gF] at h;subst h;intro y hy;simp at hy;subst hy;exact one rfl (by simp [Op.operands])
 case mapUpdate ty x z z'=>cases x<;>simp [gF] at h;subst h;intro y hy;simp at hy;subst hy;exact one rfl (by simp [Op.operands])
 case insert ty x z z'=>cases x<;>simp [gF] at h;subst h;intro y hy;simp at hy;subst hy;exact one rfl (by simp [Op.operands])
 case indexAddr ty x z=>cases x<;>simp [gF] at h;subst h;intro y hy;simp at hy;subst hy;exact one rfl (by simp [Op.operands])
 case slice ty x lo hi mx =>
  cases x<;>cases mx<;>simp [gF] at h
  subst h;intro y hy;simp at hy;subst hy;exact one rfl (by simp [Op.operands])
 case call c =>
  cases hc:c.callee with
  | value g=>simp [gF,hc] at h
  | invoke r m=>simp [gF,hc] at h
  | builtin b =>
   simp only [gF,hc,rR] at h
   subst h
   intro y hy
   obtain ⟨x,hx,e⟩:=Eb.1 hy
   cases x<;>simp at e
   subst e
   exact one rfl (Ku hx)
theorem ahe {op:Op} {t:Tmp} (h:ko op=some t):∃ys,gF op=some ys:=by
 cases op<;>try (cases h;done)
 case store ty x z=>cases x<;>simp [ko] at h;exact ⟨_,rfl⟩
 case mapUpdate ty x y z=>cases x<;>simp [ko] at h;exact ⟨_,rfl⟩
 case insert ty x y z=>cases x<;>simp [ko] at h;exact ⟨_,rfl⟩
 case call c =>
  cases hc:c.callee with
  | value g=>simp [ko,hc] at h
  | invoke r m=>simp [ko,hc] at h
  | builtin b=>exact ⟨tmpsOf c.args.toList,by simp [gF,hc]⟩
theorem aiS {j:Oper} {s s':St} (h:∀t∈kJ j.op,gZ s t=gZ s' t):fp j s=fp j s':=by
 unfold fp
 congr 1
 ·cases oI j.op with
  | false=>rfl
  | true =>
   simp only
   cases hw:ko j.op with
   | none=>rfl
   | some x =>
    obtain ⟨ys,hy⟩:=ahe hw
    exact h x (Xf hy x (X2 hw hy))
 ·cases hr:gF j.op with
  | none=>rfl
  | some ys=>exact V6 λy hy=>h y (Xf hr y hy)
section
variable {P:Program} {X:Ctx} {f:Fr} {s:St} {η:Nat->Value} {H:bu} {a:Act} {w:World}
theorem Y6 {ops:List Oper} {p j:Oper} {l:Nat} {s1:St} (h:Out X ops p l s s1) (ap:yk ops p j):fp j s1=fp j s:=by
 obtain ⟨g,x,u,h1,rfl⟩:=B6.1 h
 refine aiS λt ht=>?_
 rw [Xa (b':=s.b) λi hi e=>ap.d1 i hi (e ▸ ht)]
 rcases h1.guard with ⟨_,rfl⟩|⟨i,y,v,_,rfl,h3,h4⟩
 ·rfl
 ·exact GP h3 h4 s.b t
abbrev It:=(Nat × Oper × Nat) × FP
def Ay (X:Ctx) (ops:List Oper):List It->St->(St->Prop)->Prop
 | [],s,k=>k s
 | x :: L,s,k=>∃s',Out X ops x.1.2.1 x.1.2.2 s s'/\fp x.1.2.1 s=x.2/\Ay X ops L s' k
def R9 (X:Ctx) (ops:List Oper):List (Oper × Nat)->List FP->St->(List FP->St->Prop)->Prop
 | [],acc,s,k=>k acc s
 | (o,l) :: r,acc,s,k=>Mh X ops o l s λs'=>R9 X ops r (acc++[fp o s]) s' k
theorem Yc {ops:List Oper} {K:List FP->St->Prop}:∀(L:List (Nat × Oper × Nat)) (acc:List FP) (s:St),R9 X ops (ol L) acc s K->∃fs:List FP,fs.length=L.length/\Ay X ops (L.zip fs) s (K (acc++fs))
 | [],acc,s,h=>⟨[],rfl,by rw [x6];exact h⟩
 | x :: L,acc,s,h=>by
  obtain ⟨s',h1,h2⟩:=(W3 X ops x.2.1 x.2.2 s _).1 h
  obtain ⟨fs,h3,h4⟩:=Yc L (acc++[fp x.2.1 s]) s' h2
  refine ⟨fp x.2.1 s :: fs,by simp [h3],s',h1,rfl,?_⟩
  rw [List.append_assoc] at h4
  exact h4
theorem Yd {ops:List Oper} {k:St->Prop}:∀(L:List (Nat × Oper × Nat)) (s:St),jW X ops (ol L) s k->∃fs:List FP,fs.length=L.length/\Ay X ops (L.zip fs) s k
 | [],s,h=>⟨[],rfl,h⟩
 | x :: L,s,h=>by
  obtain ⟨s',h1,h2⟩:=sU.1 h
  obtain ⟨fs,h3,h4⟩:=Yd L s' h2
  exact ⟨fp x.2.1 s :: fs,by simp [h3],s',h1,rfl,h4⟩
structure Sa (ops:List Oper) (x y:It):Prop where
 t:yk ops x.1.2.1 y.1.2.1
 k1:known x.1.2.1 y.1.2.1=true
 k2:known y.1.2.1 x.1.2.1=true
 s1:qw x.1.2.1 y.1.2.1=true->Fe x.2.1 y.2.2=true
 s2:qw y.1.2.1 x.1.2.1=true->Fe y.2.1 x.2.2=true
theorem Y7 (C:X.Ok P) {ops:Array Oper} {k:St->Prop} (x:It) (B:List It):∀(A:List It) {s:St},Good f s->k7 ops s ((A++x :: B).map (·.1))->(∀p∈A,Sa ops.toList p x) ->
  Ay X ops.toList (A++x :: B) s k->Ay X ops.toList (x :: A++B) s k
 | [],s,_,_,_,h=>h
 | p :: A,s,G,W,hA,h=>by
  obtain ⟨s1,h1,AY,h2⟩:=h
  have hp:=hA p (by simp)
  have G1:=G.out C (W.get p.1 (by simp)) (λha=>W.un p.1 (by simp) ha) (W.store p.1 (by simp)) h1
  obtain ⟨s2,h4,h4',h5⟩:=Y7 C x B A G1 (W.tail h1) (λq hq=>hA q (by simp [hq])) h2
  have hx:fp x.1.2.1 s=x.2:=(Y6 h1 hp.t).symm.trans h4'
  have xa:=(fx.1 W.gH).1 x.1 (by simp)
  obtain ⟨FR,h6,h7⟩:=swap G hp.t (Sep.of hp.k1 (by rw [AY,hx];exact hp.s1)) (Sep.of hp.k2 (by rw [AY,hx];exact hp.s2)) (λha=>W.un p.1 (by simp) ha) (λha=>W.un x.1 (by simp) ha) xa h1 h4
  exact ⟨FR,h6,hx,s2,h7,(Y6 h6 hp.t.symm).trans AY,h5⟩
def LI (ops:List Oper):List Oper->List Oper->List Nat->Bool
 | [],_,_=>true
 | o :: r,pre,acc =>
  (o.after.toList.all λe=>!Region.binds .any e||Nat.blt e.on pre.length) &&
  (pre.zipIdx.all λp=>(qs acc o).testBit p.2||LH ops p.1 o) &&
  LI ops r (pre++[o]) (acc++[qs acc o])
def Qc (ops:List Oper):Bool:=LI ops ops [] []
def Ce (m:Nat) (o:Oper) (i:Nat):List Oper->Nat->List (Nat × Nat)
 | [],_=>[]
 | p :: r,j=>match qw p o||qw o p with
  | true=>match m.testBit j with
   | true=>Ce m o i r (j+1)
   | false=>(j,i) :: Ce m o i r (j+1)
  | false=>Ce m o i r (j+1)
def HA:List Oper->List Oper->List Nat->List (Nat × Nat)
 | [],_,_=>[]
 | o :: r,pre,acc=>Ce (qs acc o) o pre.length pre 0++HA r (pre++[o]) (acc++[qs acc o])
def Qz (ops:List Oper):List (Nat × Nat):=HA ops [] []
def HB (fs:List FP):List (Nat × Nat)->Bool
 | []=>true
 | q :: r=>(match fs[q.1]?,fs[q.2]? with
  | some f,some g=>Ff f g
  | _,_=>false)&&HB fs r
structure Ye (ops:List Oper):Prop where
 back:∀i o e,ops[i]?=some o->e∈o.after.toList->Region.binds .any e=true->e.on < i
 apart:∀i o j p,ops[i]?=some o->ops[j]?=some p->j < i->nf ops j i\/LH ops p o=true/\((qw p o||qw o p)=true->(j,i)∈Qz ops)
theorem Xg {m:Nat} {o:Oper} {i:Nat}:∀{r:List Oper} {n j:Nat} {p:Oper},r[j]?=some p->(qw p o||qw o p)=true->m.testBit (n+j)=false->(n+j,i)∈Ce m o i r n
 | [],n,j,p,h,_,_=>by simp at h
 | x :: r,n,0,p,h,hc,hm=>by
  simp at h;subst h
  unfold Ce
  rw [hc]
  simp only
  rw [show m.testBit n=false by simpa using hm]
  simp
 | x :: r,n,j+1,p,h,hc,hm=>by
  have:=Xg (i:=i) (r:=r) (n:=n+1) (j:=j) (by simpa using h) hc (by rwa [show n+1+j=n+(j+1) by omega])
  rw [show n+1+j=n+(j+1) by omega] at this
  unfold Ce
  split
  ·split
   ·exact this
   ·exact pE _ this
  ·exact this
theorem V7 (ops:List Oper):∀(r pre:List Oper) (acc:List Nat),ops=pre++r->acc.length=pre.length ->
  (∀i j,i < pre.length->(acc.getD i 0).testBit j=true->nf ops j i) ->
  LI ops r pre acc=true->(∀i o e,pre.length<=i->ops[i]?=some o->e∈o.after.toList->Region.binds .any e=true->e.on < i) /\
   ∀i o j p,pre.length<=i->ops[i]?=some o->ops[j]?=some p->j < i->nf ops j i\/LH ops p o=true/\((qw p o||qw o p)=true->(j,i)∈HA r pre acc)
 | [],pre,acc,he,_,_,_=>by
  have hn:∀i o,pre.length<=i->ops[i]?=some o->False:=λi o hi ho=>by
   rw [he,x6,pD hi] at ho;cases ho
  exact ⟨λi o e hi ho=>(hn i o hi ho).elim,λi o j p hi ho=>(hn i o hi ho).elim⟩
 | o :: r,pre,acc,he,hl,hm,h=>by
  simp only [LI,cG] at h
  obtain ⟨⟨h1,h2⟩,h3⟩:=h
  have oG:ops[pre.length]?=some o:=by rw [he];simp
  have HQ:∀e,e∈o.after.toList->Region.binds .any e=true->e.on < pre.length:=by
   intro e fW hb
   have:=gM.1 h1 e fW
   rw [hb] at this
   simpa [Ei] using this
  have Cr:∀j,(qs acc o).testBit j=true->nf ops j pre.length:=by
   intro j hj S hS hi
   rcases Qa acc o.after.toList 0 j hj with h|⟨e,h4,h5,h6⟩
   ·simp at h
   ·have AV:=hi o e oG h4 h5
    rcases h6 with h6|h6
    ·rw [<-h6];exact AV
    ·exact hm e.on j (HQ e h4 h5) h6 S hS λo' e' gU fW iK=>hS e.on o' e' gU AV fW iK
  have ih:=V7 ops r (pre++[o]) (acc++[qs acc o]) (by rw [he];simp) (by simp [hl]) (λi j hi hj=>by
   simp at hi
   by_cases aO:i < pre.length
   ·refine hm i j aO ?_
    rw [List.getD_eq_getElem?_getD,ka (by omega)] at hj
    rw [List.getD_eq_getElem?_getD];exact hj
   ·have:i=pre.length:=by omega
    subst this
    refine Cr j ?_
    rw [List.getD_eq_getElem?_getD,qi (by omega)] at hj
    simpa [hl] using hj) h3
  simp only [List.length_append,ql,Ef] at ih
  refine ⟨λi o' e hi gU fW iK=>?_,λi o' j p hi gU hp hj=>?_⟩
  ·by_cases nT:i=pre.length
   ·subst nT
    rw [oG] at gU;simp at gU;subst gU
    exact HQ e fW iK
   ·exact ih.1 i o' e (by omega) gU fW iK
  ·by_cases nT:i=pre.length
   ·subst nT
    rw [oG] at gU;simp at gU;subst gU
    have ej:pre[j]?=some p:=by rw [he,ka hj] at hp;exact hp
    have:=gM.1 h2 (p,j) (by rw [Es];simpa using ej)
    simp only [oq] at this
    cases hb:(qs acc o).testBit j with
    | true=>exact .inl (Cr j hb)
    | false =>
     right
     rw [hb] at this
     refine ⟨by simpa using this,λhc=>?_⟩
     unfold HA
     refine vv _ ?_
     have:=Xg (m:=qs acc o) (o:=o) (i:=pre.length) (r:=pre) (n:=0) ej hc (by simpa using hb)
     simpa using this
   ·refine (ih.2 i o' j p (by omega) gU hp hj).imp id λ⟨h4,h5⟩=>⟨h4,λhc=>?_⟩
    unfold HA
    exact zO _ (h5 hc)
theorem ags {ops:List Oper} (h:Qc ops=true):Ye ops:=by
 obtain ⟨h1,h2⟩:=V7 ops ops [] [] rfl rfl (λi j hi=>by simp at hi) h
 exact ⟨λi o e=>h1 i o e (cg _),λi o j p=>h2 i o j p (cg _)⟩
theorem V8 {fs:List FP}:∀{ps:List (Nat × Nat)},HB fs ps=true->∀q∈ps,∃f g,fs[q.1]?=some f/\fs[q.2]?=some g/\Ff f g=true
 | [],_,q,hq=>by cases hq
 | x :: r,h,q,hq=>by
  simp only [HB,cG] at h
  rcases cJ.1 hq with rfl|hq
  ·have h1:=h.1
   split at h1
   ·exact ⟨_,_,by assumption,by assumption,h1⟩
   ·cases h1
  ·exact V8 h.2 q hq
theorem aiT (C:X.Ok P) {ops:Array Oper} (O:Ye ops.toList) {Q:Exit->Act->World->Prop} {k:St->Prop} (hk:∀s' η' H' a' w',Den f s' η' H' a' w'->k s'->Q .normal a' w') :
  ∀(n:Nat) (L:List It) {cL:Array Bool} {s:St} {η:Nat->Value} {H:bu} {a:Act} {w:World},L.length=n->k7 ops s (L.map (·.1))->L.Pairwise (λx y=>x.1.1 < y.1.1) ->
   (∀x∈L,∀y∈L,x.1.1 < y.1.1->nf ops.toList x.1.1 y.1.1\/Sa ops.toList x y) ->
   (∀i,i < ops.size->(cL.getD i true=false↔∃x∈L,x.1.1=i))->(∀i,cL.getD i false=true\/cL.getD i true=false\/ops.size<=i) ->
   (∀i o e,ops[i]?=some o->cL.getD i false=true->e∈o.after.toList->Region.binds .any e=true->cL.getD e.on false=true) ->
   Den f s η H a w->Ay X ops.toList L s k->wpAny P .any ops Q n cL a w:=by
 intro n
 induction n with
 | zero =>
  intro L cL s η H a w hn W kp Sb mX eG yz D h
  have:L=[]:=iV hn
  subst this
  refine ⟨?_,hk s η H a w D h⟩
  rw [Er]
  intro i hi
  obtain ⟨h0,o,ho,_⟩:=mem_ready.1 hi
  have aO:=(fQ.1 ho).1
  obtain ⟨x,hx,_⟩:=(mX i aO).1 h0
  cases hx
 | succ n ih =>
  intro L cL s η H a w hn W kp Sb mX eG yz D h
  constructor
  ·intro hr
   cases L with
   | nil=>simp at hn
   | cons x L =>
    have hx:=W.get x.1 (by simp)
    have aO:=(fQ.1 hx).1
    have:x.1.1∈Region.ready .any ops cL:=by
     refine mem_ready.2 ⟨(mX x.1.1 aO).2 ⟨x,by simp,rfl⟩,x.1.2.1,hx,λe he hb=>?_⟩
     have w8:=O.back x.1.1 x.1.2.1 e (by simpa using hx) (by simpa using he) hb
     rcases eG e.on with h1|h1|h1
     ·exact h1
     ·obtain ⟨y,hy,AW⟩:=(mX e.on (by omega)).1 h1
      rcases cJ.1 hy with rfl|hy
      ·omega
      ·have:=(fx.1 kp).1 y hy;omega
     ·omega
    rw [hr] at this
    cases this
  ·intro i hi
   obtain ⟨h0,o,ho,vH⟩:=mem_ready.1 hi
   have aO:=(fQ.1 ho).1
   obtain ⟨x,hx,rfl⟩:=(mX i aO).1 h0
   obtain ⟨A,B,rfl⟩:=Ec hx
   have jf:=W.get x.1 (by simp)
   rw [ho] at jf
   simp at jf
   have ju:=jO.1 kp
   have hA:∀p∈A,Sa ops.toList p x:=by
    intro p hp
    have Nz:p.1.1 < x.1.1:=ju.2.2 p hp x (by simp)
    have uN:=W.get p.1 (G3 (by simp [hp]))
    rcases Sb p (by simp [hp]) x (by simp) Nz with hF|hi
    ·have:=hF (λr=>cL.getD r false=true) (λr o' e hr hS he hb=>yz r o' e (by simpa using hr) hS he hb)
      (λo' e gU he hb=>by
       have:o'=o:=by
        have h1:ops[x.1.1]?=some o':=by simpa using gU
        rw [ho] at h1;simpa using h1.symm
       subst this
       exact vH e (by simpa using he) hb)
     have kF:=(mX p.1.1 (fQ.1 uN).1).2 ⟨p,by simp [hp],rfl⟩
     have CJ:p.1.1 < cL.size:=by
      rcases pG p.1.1 cL.size with h|h
      ·exact h
      ·simp [BQ h] at this
     simp [CJ] at this kF
     rw [this] at kF;cases kF
    ·exact hi
   have h2:=Y7 C x B A ⟨η,H,a,w,D⟩ W hA h
   obtain ⟨s1,h3,_,h4⟩:=h2
   have lV:(A++x :: B).Perm (x :: (A++B)):=G7
   have fi:∀y,y∈(x :: (A++B)).map (·.1)->y∈(A++x :: B).map (·.1):=λy hy=>((lV.map (·.1)).mem_iff).2 hy
   have W':k7 ops s ((x :: (A++B)).map (·.1)):={
    get:=λy hy=>W.get y (fi y hy)
    store:=λy hy=>W.store y (fi y hy)
    un:=λy hy=>W.un y (fi y hy)
    gH:=((lV.map (·.1)).pairwise_iff (λ{a b} h h1 h2=>(h h2 h1).symm)).1 W.gH }
   refine Hf C D (by rw [ho,jf]) (λha=>W.un x.1 (by simp) ha) (W.store x.1 (by simp)) h3 λη' H' a' w' D'=>?_
   have Im:x.1.1 < cL.size:=by
    rcases pG x.1.1 cL.size with h|h
    ·exact h
    ·simp [BQ h] at h0
   have sd:∀j (d:Bool),(cL.setIfInBounds x.1.1 true).getD j d=if x.1.1=j then true else cL.getD j d:=by
    intro j d
    by_cases hj:x.1.1=j
    ·subst hj;simp [Im]
    ·rw [getD_set_ne d hj,if_neg hj]
   have sub:∀y,y∈A++B->y∈A++x :: B:=λy hy=>lV.mem_iff.2 (pE _ hy)
   refine ih (A++B) (by simp at hn ⊢;omega) (W'.tail h3) ?_ (λy hy z hz=>Sb y (sub y hy) z (sub z hz)) ?_ ?_ ?_ D' h4
   ·exact jO.2 ⟨ju.1,(fx.1 ju.2.1).2,λp hp q hq=>ju.2.2 p hp q (by simp [hq])⟩
   ·intro j hj
    rw [sd]
    by_cases jD:x.1.1=j
    ·subst jD
     simp only [if_true]
     refine ⟨λh=>(by cases h),λ⟨y,hy,AX⟩=>?_⟩
     exfalso
     rcases dD.1 hy with hy|hy
     ·have:=ju.2.2 y hy x (by simp);omega
     ·have:=(fx.1 ju.2.1).1 y hy;omega
    ·rw [if_neg jD,mX j hj]
     constructor
     ·rintro ⟨y,hy,rfl⟩
      rcases dD.1 hy with hy|hy
      ·exact ⟨y,by simp [hy],rfl⟩
      ·rcases cJ.1 hy with rfl|hy
       ·exact absurd rfl jD
       ·exact ⟨y,by simp [hy],rfl⟩
     ·rintro ⟨y,hy,rfl⟩
      exact ⟨y,sub y hy,rfl⟩
   ·intro j
    rw [sd,sd]
    by_cases jD:x.1.1=j
    ·simp [jD]
    ·rw [if_neg jD,if_neg jD];exact eG j
   ·intro j o' e hj hl he hb
    rw [sd] at hl ⊢
    split at hl
    ·rename_i jD
     subst jD
     rw [ho] at hj;simp at hj;subst hj
     split
     ·rfl
     ·exact vH e (by simpa using he) hb
    ·split
     ·rfl
     ·exact yz j o' e hj hl he hb
def regionF (X:Ctx) (ops:List Oper) (s:St) (k:St->Prop):Prop :=
 match Qz ops with
 | []=>akd X ops s k
 | q :: ps=>R9 X ops (eS ops s.b.length) [] { s with b:=s.b++jL (pM ops) } λfs s'=>match HB fs (q :: ps) with
  | true=>k s'
  | false=>False
theorem agt (C:X.Ok P) {r:Bool} {F:Fence} (R:RF r F) {id:Nat} {ops:Array Oper} (hs:ue ops.toList=true) (hd:Qc ops.toList=true) {Q:Exit->Act->World->Prop} {k:St->Prop}
  (hk:∀s' η' H' a' w',Den f s' η' H' a' w'->k s'->Q .normal a' w') (D:Den f s η H a w) (h:regionF X ops.toList s k):(Code.region id ops true).wpIn F 0 P Q a w:=by
 refine wpIn_mono (Q:=uO (Q .normal)) ?_ (λe a' w' h=>by cases e<;>first|exact h|exact h.elim)
 have hk:∀s' η' H' a' w',Den f s' η' H' a' w'->k s'->uO (Q .normal) .normal a' w':=hk
 have D1:=D.ext (pM ops.toList)
 have W:=O3 hs s
 have O:=ags hd
 obtain ⟨fs,C9,iw,hps⟩:∃fs:List FP,fs.length=(items ops.toList s.b.length).length/\Ay X ops.toList ((items ops.toList s.b.length).zip fs) { s with b:=s.b++jL (pM ops.toList) } (λs'=>k s') /\
   (∀q∈Qz ops.toList,∃f g,fs[q.1]?=some f/\fs[q.2]?=some g/\Ff f g=true):=by
  unfold regionF at h
  split at h
  ·rename_i hp
   have h1:jW X ops.toList (ol (items ops.toList s.b.length)) { s with b:=s.b++jL (pM ops.toList) } k:=by rw [ya];exact h
   obtain ⟨fs,h2,h3⟩:=Yd _ _ h1
   exact ⟨fs,h2,h3,λq hq=>by rw [hp] at hq;cases hq⟩
  ·rename_i q ps hp
   rw [<-ya] at h
   obtain ⟨fs,h2,h3⟩:=Yc _ _ _ h
   simp only [qU] at h3
   have hb:HB fs (q :: ps)=true:=by
    have fin:∀(L:List It) (s:St) (K:St->Prop),Ay X ops.toList L s K->∃s',K s':=by
     intro L
     induction L with
     | nil=>intro s K h;exact ⟨s,h⟩
     | cons x L ih=>intro s K h;obtain ⟨s',_,_,h⟩:=h;exact ih s' K h
    obtain ⟨s',h4⟩:=fin _ _ _ h3
    split at h4
    ·assumption
    ·exact h4.elim
   rw [hb] at h3
   exact ⟨fs,h2,h3,by rw [hp];exact V8 hb⟩
 have CK:∀x∈(items ops.toList s.b.length).zip fs,fs[x.1.1]?=some x.2/\x.1∈items ops.toList s.b.length:=by
  intro x hx
  obtain ⟨i,hi⟩:=zN.1 hx
  rw [List.getElem?_zip_eq_some] at hi
  have h1:((items ops.toList s.b.length).map (·.1))[i]?=some x.1.1:=by rw [ml,hi.1];rfl
  rw [tU] at h1
  have h2:=a7.1 h1
  have h3:i=x.1.1:=by simpa using h2.2
  exact ⟨by rw [<-h3];exact hi.2,cf hi.1⟩
 refine wpIn_region_draw λt=>LD R hs Hz _ _ _ ?_
 simp only [Region.schedule,show P.follows .mixedOrders=true from C.mixed,Bool.true_or,if_true]
 refine wpAny_sound ops.size t _ a _ ?_
 have D2:Den f { s with b:=s.b++jL (pM ops.toList) } η H a { w with drawn:=w.drawn+1 }:=D1.grown (Ko w none)
 have am6:(items ops.toList s.b.length).length=ops.size:=by
  have:=congrArg List.length (tU ops.toList s.b.length)
  simpa using this
 have hlen:((items ops.toList s.b.length).zip fs).length=ops.size:=by simp [C9,am6]
 have CH:((items ops.toList s.b.length).zip fs).map (·.1)=items ops.toList s.b.length:=by
  rw [List.map_fst_zip];omega
 have kp:((items ops.toList s.b.length).zip fs).Pairwise λx y=>x.1.1 < y.1.1:=by
  have h2:((((items ops.toList s.b.length).zip fs).map (·.1)).map (·.1)).Pairwise (· < ·):=by rw [CH,tU];exact BR
  rw [qT,qT] at h2
  exact h2
 refine aiT C O hk ops.size _ hlen (by rw [CH];exact W) kp ?_ ?_ ?_ ?_ D2 iw
 ·intro x hx y hy uP
  obtain ⟨h1,h2⟩:=CK x hx
  obtain ⟨h3,h4⟩:=CK y hy
  have h5:=W.get x.1 h2
  have h6:=W.get y.1 h4
  rcases O.apart y.1.1 y.1.2.1 x.1.1 x.1.2.1 (by simpa using h6) (by simpa using h5) uP with hF|⟨hi,hp⟩
  ·exact .inl hF
  ·right
   simp only [LH,cG] at hi
   have both:(qw x.1.2.1 y.1.2.1||qw y.1.2.1 x.1.2.1)=true->Ff x.2 y.2=true:=λhc=>by
    obtain ⟨f,g,e1,e2,e3⟩:=hps _ (hp hc)
    rw [h1] at e1;rw [h3] at e2
    simp at e1 e2
    rw [e1,e2];exact e3
   refine ⟨V5 hi.1,hi.2.1,hi.2.2,λhc=>?_,λhc=>?_⟩
   ·have:=both (by rw [hc];rfl)
    simp only [Ff,cG] at this
    exact this.1
   ·have:=both (by rw [hc];simp)
    simp only [Ff,cG] at this
    exact this.2
 ·intro i hi
  have:(Array.replicate ops.size false).getD i true=false:=by simp [hi]
  simp only [this,true_iff]
  have hm:i∈(((items ops.toList s.b.length).zip fs).map (·.1)).map (·.1):=by rw [CH,tU];simpa using hi
  obtain ⟨z,hz,rfl⟩:=iM.1 hm
  obtain ⟨x,hx,rfl⟩:=iM.1 hz
  exact ⟨x,hx,rfl⟩
 ·intro i
  by_cases hi:i < ops.size
  ·right;left;simp [hi]
  ·right;right;omega
 ·intro i o e ho hl
  exfalso
  by_cases hi:i < ops.size
  ·simp [hi] at hl
  ·simp [hi] at hl
end
end Go.Vc
