import Derived.Test.YthnhbemmlfaihaaGreatT12
import Derived.OrdersIn
set_option linter.unusedVariables false
set_option linter.unusedSimpArgs false
set_option maxRecDepth 10000
set_option maxHeartbeats 64000000
namespace Go.Vc
open Go
def Cb:List Oper->List Nat->List Nat
 | [],acc=>acc
 | o :: r,acc=>Cb r (acc++[rM acc o])
def xg (X:Ctx) (o:Oper):Bool:=match o.op with
 | .alloc e=>o.guard.isNone&&(o.after.toList.all λe=>!Region.binds .any e)&&o.dst.isSome&&(X.tt e).isSome
 | _=>false
def aeF (ops:List Oper) (j:Nat):Nat->Option Tmp->Bool
 | _,none=>false
 | _,some d=>ops.zipIdx.all λp=>Nat.beq p.2 j||!J9 p.1 d
def NY (X:Ctx) (ops:List Oper) (ms:List Nat) (i:Nat):List Oper->Nat->Bool
 | [],_=>true
 | o :: r,j=>((ms.getD j 0).testBit i||(xg X o&&aeF ops j 0 o.dst))&&NY X ops ms i r (j+1)
def OU (X:Ctx) (ops:List Oper) (i:Nat):Bool :=
 (match ops[i]? with
  | some o=>o.guard.isNone&&(!gY o.op&&(!uH o.op&&!yB o.op))
  | none=>false)&&((List.range i).all λj=>((Cb ops []).getD i 0).testBit j)&&NY X ops (Cb ops []) i (ops.drop (i+1)) (i+1)
def Ka (X:Ctx):List Oper->Nat->Option Nat
 | [],_=>none
 | o :: r,j=>match o.op with
  | .call c=>match c.callee with
   | .value (.func f)=>match X.sp f with
    | some _=>Ka X r (j+1)
    | none=>match X.inl f with
     | some _=>some j
     | none=>Ka X r (j+1)
   | _=>Ka X r (j+1)
  | _=>Ka X r (j+1)
def GY (X:Ctx):List Oper->List Nat
 | []=>[]
 | o :: r=>match xg X o,o.dst with
  | true,some d=>d :: GY X r
  | _,_=>GY X r
def mR:List Nat->List SV->List SV
 | [],t=>t
 | d :: r,t=>mR r (t.set d .any)
def Ew:List (Oper × Nat)->List Slot->Bool
 | [],_=>true
 | (o,l) :: r,b=>(match gY o.op with
  | true=>match b[l]? with
   | some .un=>true
   | _=>false
  | false=>true)&&Ew r b
def Cc (X:Ctx) (ops:List Oper) (i:Nat) (s:St):St:=⟨mR (GY X (ops.drop (i+1))) s.t,s.b⟩
def VI (X:Ctx) (call:rU) (S:List SV) (ops:List Oper) (i:Nat) (s:St) (k:St->Prop):Prop:=match ops[i]? with
 | none=>False
 | some h=>match aez ops (Cc X ops i s)&&(GY X (ops.drop (i+1))).all λd=>Nat.blt d s.t.length with
  | false=>False
  | true=>kG X ops ((fk ops s.b.length).take i) { Cc X ops i s with b:=s.b++jt (qX ops) } λs1 =>
   A0 X call S h 0 s1 λs2=>match Ew ((fk ops s.b.length).drop (i+1)) s2.b&&Cm ops (sF ops (fk ops s.b.length) s2) ops with
    | true=>kG X ops ((fk ops s.b.length).drop (i+1)) s2 k
    | false=>False
theorem R0 (ops:List Oper):∀(r pre:List Oper) (acc:List Nat),ops=pre++r->acc.length=pre.length ->
  (∀i j,(acc.getD i 0).testBit j=true->ow ops j i)->∀i j,((Cb r acc).getD i 0).testBit j=true->ow ops j i
 | [],pre,acc,_,_,hm=>hm
 | o :: r,pre,acc,he,hl,hm=>by
  have iD:ops[pre.length]?=some o:=by rw [he];simp
  have Ev:∀j,(rM acc o).testBit j=true->ow ops j pre.length:=by
   intro j hj S hS hi
   rcases S7 acc o.after.toList 0 j hj with h|⟨e,h4,h5,h6⟩
   ·simp at h
   ·have CR:=hi o e iD h4 h5
    rcases h6 with h6|h6
    ·rw [<-h6];exact CR
    ·exact hm e.on j h6 S hS λo' e' jd gJ lU=>hS e.on o' e' jd CR gJ lU
  refine R0 ops r (pre++[o]) (acc++[rM acc o]) (by rw [he];simp) (by simp [hl]) λi j hj=>?_
  rw [gW] at hj
  by_cases aR:i < acc.length
  ·rw [nJ aR] at hj
   exact hm i j (by rw [gW];exact hj)
  ·rw [uA (by omega)] at hj
   by_cases qE:i=acc.length
   ·subst qE
    rw [hl]
    exact Ev j (by simpa using hj)
   ·have:([rM acc o]:List Nat)[i - acc.length]?=none:=by simp;omega
    rw [this] at hj
    simp at hj
structure aeG (X:Ctx) (ops:List Oper) (i:Nat):Prop where
 call:∃o,ops[i]?=some o/\o.guard=none/\gY o.op=false/\uH o.op=false/\yB o.op=false
 yY:∀j,j < i->ow ops j i
 back:∀j o,i < j->ops[j]?=some o->ow ops i j\/(xg X o=true/\∃d,o.dst=some d/\∀j' o',ops[j']?=some o'->j'≠j->o'.dst≠some d)
theorem Z1 {X:Ctx} {ops:List Oper} {ms:List Nat} {i:Nat} (hm:∀a b,(ms.getD a 0).testBit b=true->ow ops b a):∀(r:List Oper) (j0:Nat),NY X ops ms i r j0=true ->
  ∀j o,r[j]?=some o->ow ops i (j0+j)\/(xg X o=true/\∃d,o.dst=some d/\∀j' o',ops[j']?=some o'->j'≠j0+j->o'.dst≠some d)
 | [],_,_,j,o,h=>by simp at h
 | x :: r,j0,hb,j,o,h=>by
  simp only [NY,ei,vA] at hb
  cases j with
  | zero =>
   simp at h;subst h
   rcases hb.1 with h1|⟨h1,h2⟩
   ·exact .inl (hm _ _ h1)
   ·right
    refine ⟨h1,?_⟩
    unfold aeF at h2
    split at h2
    ·cases h2
    ·rename_i d hd
     refine ⟨d,hd,λj' o' jd cZ mX=>?_⟩
     have:=mN.1 h2 (o',j') (by rw [Gr];simpa using jd)
     simp only [vA,pI] at this
     rcases this with h3|h3
     ·exact cZ (by rw [oR h3];rfl)
     ·rw [SK.2 mX] at h3;cases h3
  | succ j =>
   have:=Z1 hm r (j0+1) hb.2 j o (by simpa using h)
   rwa [show j0+1+j=j0+(j+1) by omega] at this
theorem alz {X:Ctx} {ops:List Oper} {i:Nat} (h:OU X ops i=true):aeG X ops i:=by
 have hm:=R0 ops ops [] [] rfl rfl (λi j h=>by simp at h)
 unfold OU at h
 simp only [ei] at h
 obtain ⟨⟨h1,h2⟩,h3⟩:=h
 refine ⟨?_,λj hj=>hm i j (by simpa using mN.1 h2 j (by simpa using hj)),λj o hj ho=>?_⟩
 ·split at h1
  ·rename_i o ho
   simp only [ei,pI] at h1
   exact ⟨o,ho,by simpa using h1.1,h1.2.1,h1.2.2.1,h1.2.2.2⟩
  ·cases h1
 ·have:=Z1 hm (ops.drop (i+1)) (i+1) h3 (j - (i+1)) o (by rw [lq,show i+1+(j - (i+1))=j by omega];exact ho)
  rwa [show i+1+(j - (i+1))=j by omega] at this
structure Float (X:Ctx) (o:Oper) (e:TypeId) (i:TI) (d:Tmp):Prop where
 op:o.op=.alloc e
 dst:o.dst=some d
 ti:X.tt e=some i
 guard:o.guard=none
 after:∀e∈o.after.toList,Region.binds .any e=false
theorem S_ {X:Ctx} {o:Oper} (h:xg X o=true):∃e i d,Float X o e i d:=by
 unfold xg at h
 split at h
 ·rename_i e he
  simp only [ei] at h
  obtain ⟨⟨⟨h1,h2⟩,h3⟩,h4⟩:=h
  obtain ⟨d,hd⟩:=uB.1 h3
  obtain ⟨i,hi⟩:=uB.1 h4
  exact ⟨e,i,d,he,hd,hi,by simpa using h1,λe he=>by simpa using mN.1 h2 e he⟩
 ·cases h
theorem RL {X:Ctx} {ops:List Oper} {o:Oper} {e:TypeId} {ti:TI} {d:Tmp} (F:Float X o e ti d) {i:Nat} (hi:ops[i]?=some o) (j:Nat):¬ow ops j i:=by
 intro h
 refine h (λ_=>False) (λ_ _ _ _ h _ _=>h) λo' e' jd gJ lU=>?_
 rw [hi] at jd
 simp at jd
 subst jd
 rw [F.after e' gJ] at lU
 cases lU
def Fr.Cp (f:Fr) (bl:Nat) (o:Obj):Fr:={ f with F:=λb=>if b=bl then some o else f.F b }
inductive uO (X:Ctx) (a:Act) (f:Fr):List (Nat × Oper × Nat)->Fr->Prop
 | nil:uO X a f [] f
 | cons {E:List (Nat × Oper × Nat)} {f1:Fr} {x:Nat × Oper × Nat} {e:TypeId} {i:TI} {d:Tmp} {bl:Nat}:uO X a f E f1->Float X x.2.1 e i d->f1.H0 bl=none->f1.F bl=none ->
  a.tmps[d]?=some (.pointer (some ⟨bl,0,none⟩))->uO X a f (x :: E) (f1.Cp bl (.cells i.zero.cells e (0,0)))
section
variable {P:Program} {X:Ctx} {f f1:Fr} {s:St} {η:Nat->Value} {H:bQ} {a a':Act} {w:World} {o:Oper}
theorem uO.sS {E:List (Nat × Oper × Nat)} (h:uO X a f E f1):f1.sS=f.sS:=by
 induction h with
 | nil=>rfl
 | cons _ _ _ _ _ ih=>exact ih
theorem uO.Ho {E:List (Nat × Oper × Nat)} (h:uO X a f E f1) (ha:∀x∈E,∀d,x.2.1.dst=some d->a'.tmps[d]?=a.tmps[d]?):uO X a' f E f1:=by
 induction h with
 | nil=>exact .nil
 | cons _ hf h1 h2 h3 ih=>exact .cons (ih λx hx=>ha x (by simp [hx])) hf h1 h2 (by rw [ha _ (by simp) _ hf.dst];exact h3)
theorem acq {r:Bool} {F:Fence} (R:RF r F) {ops:Array Oper} {Q:Exit->Act->World->Prop} (hs:xd ops.toList=true) (hQ:¬LetsOut Q):∀(n:Nat) (dO:Array Bool) (a:Act) (w:World),
  wpAny P .any ops Q n dO a w->wpAnyIn F 0 P .any ops Q n dO a w:=by
 intro n
 induction n with
 | zero=>intro dO a w h;exact h
 | succ n ih =>
  intro dO a w h
  refine ⟨h.1,λi hi=>?_⟩
  have h1:=h.2 i hi
  unfold wpOp at h1
  unfold wpOpIn
  cases ho:ops[i]? with
  | none=>rw [ho] at h1;exact ih _ _ _ h1
  | some o =>
   rw [ho] at h1
   simp only at h1 ⊢
   by_cases hw:Region.wanted o (yielded ops a.tmps)=true
   ·rw [if_pos hw] at h1 ⊢
    rcases h1 with h1|h1
    ·refine Oper.wpIn_mono (λa w h=>ih _ a w h) (Ay R ?_ h1)
     have:=mN.1 hs o (by simpa using zY ho)
     cases cG:uH o.op
     ·rw [cG] at this;simpa using this
     ·cases fa:o.op<;>rw [fa] at cG<;>first|rfl|cases cG
    ·exact absurd h1.2 hQ
   ·rw [if_neg hw] at h1 ⊢
    exact ⟨λg _=>R.fn g,ih _ _ _ h1⟩
theorem BO (a:Act) (dst:Option Tmp) (v:Value) (d:Tmp) (h:dst≠some d):(a.put dst v).tmps[d]?=a.tmps[d]?:=by
 cases dst with
 | none=>rfl
 | some d' =>
  have:d'≠d:=λe=>h (by rw [e])
  simp [Act.put,R6 this]
theorem Z2 {F:Fence} {K:Act->World->Prop} {Q:Exit->Act->World->Prop} (h:o.wpIn F 0 P a w K Q):o.wpIn F 0 P a w (λa' w'=>K a' w'/\∀d,o.dst≠some d->a'.tmps[d]?=a.tmps[d]?) Q:=by
 refine ⟨h.1,?_⟩
 have h2:=h.2
 generalize (o.semAt F.round a.eval).run P w=z at *
 cases z with
 | ok x w' =>
  cases x<;>simp only [Oper.uponIn] at h2 ⊢
  case value v=>exact ⟨h2,λd hd=>BO a o.dst v d hd⟩
  case skip=>exact ⟨h2,λd hd=>BO a o.dst _ d hd⟩
  case defer dd=>exact ⟨h2,λd hd=>BO { a with defers:=dd :: a.defers } o.dst _ d hd⟩
  case enter=>exact ⟨h2.1,CallsIn.mono h2.2 λe Lw he=>by cases e<;>first|exact ⟨he,λd hd=>BO a o.dst _ d hd⟩|exact he⟩
  case row=>exact ⟨h2.1,RowsIn.mono h2.2 λv Lw he=>⟨he,λd hd=>BO a o.dst _ d hd⟩⟩
  case round=>exact ⟨h2.1,RoundIn.mono h2.2 λe Lw he=>by cases e<;>first|exact ⟨he,λd hd=>BO a o.dst _ d hd⟩|exact he⟩
  all_goals exact h2
 | halt x w'=>cases x<;>simp only [Oper.uponIn] at h2 ⊢<;>exact h2
theorem aob (t:List SV) (d:Nat) (h:t[d]?=some .any\/t[d]?=none):t.set d .any=t:=by
 rcases h with h|h
 ·exact NG t d _ h
 ·exact aae (by simpa using h)
theorem Den.early (C:X.Ok P) (D:Den f1 s η H a w) {e:TypeId} {i:TI} {d:Tmp} (Fl:Float X o e i d) (ht:s.t[d]?=some .any\/s.t[d]?=none) {F:Fence} {r:Bool} (R:RF r F) {K:Act->World->Prop} {Q:Exit->Act->World->Prop}
  (hK:∀bl a' w',f1.H0 bl=none->f1.F bl=none->(d < a.tmps.size->a'.tmps[d]?=some (.pointer (some ⟨bl,0,none⟩)))->(∀j,j≠d->a'.tmps[j]?=a.tmps[j]?)->Den (f1.Cp bl (.cells i.zero.cells e (0,0))) s η H a' w'->K a' w'):o.wpIn F 0 P a w K Q:=by
 refine Ay R (by rw [Fl.op];rfl) ?_
 have I:=C.tt _ _ Fl.ti
 have hr:(execOp a.eval o).run P w=.ok (.value (.pointer (some ⟨w.heap.size,0,none⟩))) (w.alloc (.cells i.zero.cells e)):=by
  have hz:=Ju I w
  simp [execOp,Fl.op,Instr.alloc,hz,Vc.RV,Result.andThen]
 unfold Oper.wp
 rw [hr]
 have dY:∀b o,w.heap[b]?=some o->b < w.heap.size:=λb o h=>(jh.1 h).1
 have Xl:f1.H0 w.heap.size=none:=by
  cases h:f1.H0 w.heap.size with
  | none=>rfl
  | some o'=>exact absurd (dY _ _ (D.hw _ _ (D.h0 _ _ h))) (by omega)
 have hF:f1.F w.heap.size=none:=by
  cases h:f1.F w.heap.size with
  | none=>rfl
  | some o'=>exact absurd (dY _ _ (D.fw _ _ h)) (by omega)
 refine hK w.heap.size _ _ Xl hF (λhd=>by rw [Fl.dst];simp [Act.put,hd]) (λj hj=>BO a o.dst _ j (by rw [Fl.dst];exact λe=>hj (by simpa using e.symm))) ?_
 have D1:=D.grown (World.grownBy_alloc w (.cells i.zero.cells e) none)
 have D2:=Den.put D1 o.dst (x:=.any) (v:=.pointer (some ⟨w.heap.size,0,none⟩)) (by simp only [rel])
 rw [Fl.dst] at D2
 simp only [aob s.t d ht] at D2
 rw [<-Fl.dst] at D2
 exact {
  t:=D2.t
  sv:=D2.sv
  d:=D2.d
  h0:=D2.h0
  hw:=D2.hw
  fw:=λb ob h=>by
   simp only [Fr.Cp] at h
   split at h
   ·rename_i e1
    subst e1
    cases h
    exact (MapKept.heap_alloc w _).1
   ·exact D2.fw b ob h
  hf:=λb h=>by
   rcases D2.hf b h with h1|h1
   ·exact .inl h1
   ·right
    simp only [Fr.Cp]
    rw [if_neg]
    ·exact h1
    ·intro e1
     cases hh:H b with
     | none=>exact h hh
     | some ob=>have:=dY _ _ (D.hw _ _ hh);omega
  sl:=D2.sl
  dj:=D2.dj
  dh:=λl b h1 h2=>by
   have:=D2.dh l b h1 h2
   refine ⟨this.1,?_⟩
   simp only [Fr.Cp]
   rw [if_neg]
   ·exact this.2
   ·have:=D.DX h1 h2;omega
  os:=D2.os
  tape:=D2.tape
  out:=D2.out }
theorem Den.restore {e:TypeId} {i:TI} {d l bl:Nat} (D:Den (f1.Cp bl (.cells i.zero.cells e (0,0))) s η H a w) (h0:f1.H0 bl=none) (hF:f1.F bl=none) (ha:a.tmps[d]?=some (.pointer (some ⟨bl,0,none⟩)))
  (hl:s.b[l]?=some .un):Den f1 ⟨s.t.set d (.ptr l 0),s.b.set l (.fix e (i.zero.cells.toList.map mb))⟩ (od η l (.pointer (some ⟨bl,0,none⟩))) H a w:=by
 have aR:=(bX.1 hl).1
 have HY:∀b,(f1.Cp bl (.cells i.zero.cells e (0,0))).F b=if b=bl then some (.cells i.zero.cells e (0,0)) else f1.F b:=λb=>rfl
 have hq:∀k,bg (s.b.set l (.fix e (i.zero.cells.toList.map mb))) k=if k=l then .live else bg s.b k:=λk=>by rw [vG k aR];rfl
 have Qn:bg s.b l=.un:=dg hl
 have T:jA η (od η l (.pointer (some ⟨bl,0,none⟩))) (bg s.b) (bg (s.b.set l (.fix e (i.zero.cells.toList.map mb)))):=by
  intro k
  by_cases hk:k=l
  ·subst hk;rw [Qn];trivial
  ·rw [hq,if_neg hk,lK _ _ _ _ hk]
   generalize bg s.b k=z
   cases z<;>simp
 have hH:H bl=none:=by
  cases h:H bl with
  | none=>rfl
  | some ob =>
   rcases D.hf bl (by rw [h];simp) with h1|h1
   ·exact absurd h0 h1
   ·rw [HY,if_pos rfl] at h1;cases h1
 have pM:∀k,k≠l->bg (s.b.set l (.fix e (i.zero.cells.toList.map mb))) k=.live->bg s.b k=.live:=λk hk h=>by rwa [hq,if_neg hk] at h
 have cZ:∀k b,bg s.b k=.live->dt (η k)=some b->b≠bl:=by
  intro k b h1 h2 e1
  have:=(D.dh k b h1 h2).2
  rw [HY,if_pos e1] at this
  cases this
 exact {
  t:=by
   have h1:=iS T (bQ.le.refl H) _ _ D.t
   have h2:=yw h1 d (x:=.ptr l 0) (u:=.pointer (some ⟨bl,0,none⟩)) (by
    simp only [rel,hq,if_true]
    exact ⟨bl,gq _ _ _,rfl⟩)
   have e1:a.tmps.toList.set d (.pointer (some ⟨bl,0,none⟩))=a.tmps.toList:=by
    refine nL λj=>?_
    rw [iT]
    split
    ·rename_i hj;subst hj
     have:a.tmps.toList[d]?=some (.pointer (some ⟨bl,0,none⟩)):=by simpa using ha
     rw [this]
     have:=(bX.1 this).1
     simp only [this,if_true]
    ·rfl
   rw [e1] at h2
   exact h2
  sv:=iS T (bQ.le.refl H) _ _ D.sv
  d:=D.d
  h0:=D.h0
  hw:=D.hw
  fw:=λb ob h=>D.fw b ob (by rw [HY,if_neg (λe1=>by rw [e1,hF] at h;cases h)];exact h)
  hf:=λb h=>by
   rcases D.hf b h with h1|h1
   ·exact .inl h1
   ·right
    rw [HY] at h1
    split at h1
    ·cases h1
    ·exact h1
  sl:=λk x hx=>by
   by_cases hk:k=l
   ·subst hk
    rw [qn aR] at hx
    simp at hx;subst hx
    exact ⟨bl,i.zero.cells,gq _ _ _,D.fw bl _ (by rw [HY,if_pos rfl]),Bz _ _ _ _⟩
   ·rw [eU (λe1=>hk e1.symm)] at hx
    exact (D.sl k x hx).kept T (bQ.le.refl H) (lK _ _ _ _ hk) λ_ _=>rfl
  dj:=λk k' b h1 h2 h3 h4=>by
   by_cases hk:k=l<;>by_cases jL:k'=l
   ·rw [hk,jL]
   ·exfalso
    subst hk
    rw [gq] at h3
    rw [lK _ _ _ _ jL] at h4
    simp [dt] at h3
    exact cZ k' b (pM k' jL h2) h4 h3.symm
   ·exfalso
    subst jL
    rw [gq] at h4
    rw [lK _ _ _ _ hk] at h3
    simp [dt] at h4
    exact cZ k b (pM k hk h1) h3 h4.symm
   ·rw [lK _ _ _ _ hk] at h3
    rw [lK _ _ _ _ jL] at h4
    exact D.dj k k' b (pM k hk h1) (pM k' jL h2) h3 h4
  dh:=λk b h1 h2=>by
   by_cases hk:k=l
   ·subst hk
    rw [gq] at h2
    simp [dt] at h2
    subst h2
    exact ⟨hH,hF⟩
   ·rw [lK _ _ _ _ hk] at h2
    have h3:=D.dh k b (pM k hk h1) h2
    refine ⟨h3.1,?_⟩
    have h4:=h3.2
    rw [HY] at h4
    split at h4
    ·cases h4
    ·exact h4
  os:=D.os
  tape:=D.tape
  out:=D.out }
structure pL (ops:Array Oper) (L:List (Nat × Oper × Nat)) (dO:Array Bool):Prop where
 inc:L.Pairwise (λx y=>x.1 < y.1)
 list:∀i,i < ops.size->(dO.getD i true=false↔∃x∈L,x.1=i)
 all:∀i,dO.getD i false=true\/dO.getD i true=false\/ops.size<=i
 down:∀i o e,ops[i]?=some o->dO.getD i false=true->e∈o.after.toList->Region.binds .any e=true->dO.getD e.on false=true
theorem pL.step {ops:Array Oper} {A B:List (Nat × Oper × Nat)} {x:Nat × Oper × Nat} {dO:Array Bool} (h:pL ops (A++x :: B) dO) (hr:x.1∈Region.ready .any ops dO) :
  pL ops (A++B) (dO.setIfInBounds x.1 true):=by
 obtain ⟨rq,nj,gv,Az⟩:=h
 obtain ⟨h0,o,ho,xq⟩:=mem_ready.1 hr
 have j4:=n9.1 rq
 have Kz:x.1 < dO.size:=by
  rcases vC x.1 dO.size with h|h
  ·exact h
  ·simp [Gt h] at h0
 have tI:∀j (d:Bool),(dO.setIfInBounds x.1 true).getD j d=if x.1=j then true else dO.getD j d:=by
  intro j d
  by_cases hj:x.1=j
  ·subst hj;simp [Kz]
  ·rw [getD_set_ne d hj,if_neg hj]
 constructor
 ·exact n9.2 ⟨j4.1,(lL.1 j4.2.1).2,λp hp q hq=>j4.2.2 p hp q (by simp [hq])⟩
 ·intro j hj
  rw [tI]
  by_cases jk:x.1=j
  ·subst jk
   simp only [if_true]
   refine ⟨λh=>(by cases h),λ⟨y,hy,Lu⟩=>?_⟩
   exfalso
   rcases List.mem_append.1 hy with hy|hy
   ·have:=j4.2.2 y hy x (by simp);omega
   ·have:=(lL.1 j4.2.1).1 y hy;omega
  ·rw [if_neg jk,nj j hj]
   constructor
   ·rintro ⟨y,hy,rfl⟩
    rcases List.mem_append.1 hy with hy|hy
    ·exact ⟨y,by simp [hy],rfl⟩
    ·rcases er.1 hy with rfl|hy
     ·exact absurd rfl jk
     ·exact ⟨y,by simp [hy],rfl⟩
   ·rintro ⟨y,hy,rfl⟩
    rcases List.mem_append.1 hy with hy|hy
    ·exact ⟨y,by simp [hy],rfl⟩
    ·exact ⟨y,by simp [hy],rfl⟩
 ·intro j
  rw [tI,tI]
  by_cases jk:x.1=j
  ·simp [jk]
  ·rw [if_neg jk,if_neg jk];exact gv j
 ·intro j o' e hj hl he hb
  rw [tI] at hl ⊢
  split at hl
  ·rename_i jk
   subst jk
   rw [ho] at hj;simp at hj;subst hj
   split
   ·rfl
   ·exact xq e (by simpa using he) hb
  ·split
   ·rfl
   ·exact Az j o' e hj hl he hb
theorem pL.first {ops:Array Oper} (O:Ordered ops.toList) {L:List (Nat × Oper × Nat)} {x:Nat × Oper × Nat} {dO:Array Bool} (h:pL ops (x :: L) dO) (hx:ops[x.1]?=some x.2.1):x.1∈Region.ready .any ops dO:=by
 have aR:=(jh.1 hx).1
 refine mem_ready.2 ⟨(h.list x.1 aR).2 ⟨x,by simp,rfl⟩,x.2.1,hx,λe he hb=>?_⟩
 have vU:=O.back x.1 x.2.1 e (by simpa using hx) (by simpa using he) hb
 rcases h.all e.on with h1|h1|h1
 ·exact h1
 ·obtain ⟨y,hy,zi⟩:=(h.list e.on (by omega)).1 h1
  rcases er.1 hy with rfl|hy
  ·omega
  ·have:=(lL.1 h.inc).1 y hy;omega
 ·omega
theorem pL.yY {ops:Array Oper} {L:List (Nat × Oper × Nat)} {dO:Array Bool} (h:pL ops L dO) {i j:Nat} (hr:i∈Region.ready .any ops dO) (hF:ow ops.toList j i) (hj:j < ops.size):∀x∈L,x.1≠j:=by
 intro x hx e
 obtain ⟨h0,o,ho,xq⟩:=mem_ready.1 hr
 have:=hF (λr=>dO.getD r false=true) (λr o' e hr hS he hb=>h.down r o' e (by simpa using hr) hS he hb)
  (λo' e jd he hb=>by
   have:o'=o:=by
    have h1:ops[i]?=some o':=by simpa using jd
    rw [ho] at h1;simpa using h1.symm
   subst this
   exact xq e (by simpa using he) hb)
 have mZ:=(h.list j hj).2 ⟨x,hx,e⟩
 have vV:j < dO.size:=by
  rcases vC j dO.size with h|h
  ·exact h
  ·simp [Gt h] at this
 simp [vV] at this mZ
 rw [this] at mZ;cases mZ
theorem me.sub {ops:Array Oper} {L L':List (Nat × Oper × Nat)} (W:me ops s L) (h:L'.Sublist L):me ops s L' :=
 ⟨λx hx=>W.get x (h.subset hx),λx hx=>W.store x (h.subset hx),λx hx=>W.un x (h.subset hx),W.i_.sublist h⟩
theorem me.perm {ops:Array Oper} {L L':List (Nat × Oper × Nat)} (W:me ops s L) (h:L.Perm L'):me ops s L' :=
 ⟨λx hx=>W.get x (h.mem_iff.2 hx),λx hx=>W.store x (h.mem_iff.2 hx),λx hx=>W.un x (h.mem_iff.2 hx),(h.pairwise_iff (λ{a b} h h1 h2=>(h h2 h1).symm)).1 W.i_⟩
theorem aoc {ops:List Oper} {l:Nat} {s s':St} (h:Out X ops o l s s') {d:Nat} (ht:s.t[d]?=some .any) (hd:o.dst≠some d):s'.t[d]?=some .any:=by
 obtain ⟨g,x,u,h1,rfl⟩:=D9.1 h
 show (ov o.dst x (nR g s.t))[d]?=some .any
 rw [NH _ _ _ _ (λj hj e=>hd (by rw [hj,e])),S6]
 ·exact ht
 ·intro j v hg e
  subst e
  rcases h1.guard with ⟨_,h2⟩|⟨i,y,v',_,h2,h3,h4⟩
  ·rw [h2] at hg;cases hg
  ·rw [h2] at hg
   simp at hg
   obtain ⟨rfl,rfl⟩:=hg
   rw [ht] at h3
   simp at h3
   subst h3
   simp [mQ] at h4
theorem amb {ops:List Oper} {l:Nat} {s s':St} {e:TypeId} {i:TI} {d:Tmp} (Fl:Float X o e i d) (h:Out X ops o l s s'):s'=⟨s.t.set d (.ptr l 0),s.b.set l (.fix e (i.zero.cells.toList.map mb))⟩:=by
 unfold Out xx at h
 rw [Fl.guard] at h
 obtain ⟨x,u,h1,rfl⟩:=h
 rw [Fl.op] at h1
 simp only [eL,Fl.ti] at h1
 obtain ⟨rfl,rfl⟩:=h1
 simp [St.ga,Fl.dst,mO]
theorem alb (C:X.Ok P) {ops:Array Oper} (O:Ordered ops.toList) {k:St->Prop} {E:List (Nat × Oper × Nat)} (hp:uO X a f E f1):∀{R:List (Nat × Oper × Nat)} {s:St} {η:Nat->Value} {Ks:Tmp->List Nat},Den f1 s η H a w->me ops s R->q_ ops.toList Ks s ->
  (∀y∈R,vO ops.toList Ks y.2.1 y.2.2)->R.Pairwise (λx y=>x.1 < y.1)->(∀x∈E,x∈R)->E.Pairwise (λx y=>x.1≠y.1)->kG X ops.toList (ol R) s k ->
  ∃(s':St) (η':Nat->Value) (R':List (Nat × Oper × Nat)),Den f s' η' H a w/\me ops s' R'/\q_ ops.toList Ks s'/\(∀y∈R',vO ops.toList Ks y.2.1 y.2.2)/\R'.Pairwise (λx y=>x.1 < y.1) /\
   (∀y,y∈R'↔y∈R/\∀x∈E,x.1≠y.1)/\kG X ops.toList (ol R') s' k:=by
 induction hp with
 | nil=>intro R s η Ks D W FA hL rq _ _ h;exact ⟨s,η,R,D,W,FA,hL,rq,λy=>by simp,h⟩
 | @cons E f1 x e i d bl hp Fl h0 hF ha ih =>
  intro R s η Ks D W FA hL rq wj Fx h
  have xS:=wj x (by simp)
  obtain ⟨A,B,rfl⟩:=Ge xS
  have j4:=n9.1 rq
  have je:=W.get x (by simp)
  have hA:∀p∈A,xo ops.toList p.2.1 x.2.1:=by
   intro p qC
   have oE:=W.get p (by simp [qC])
   rcases O.apart x.1 x.2.1 p.1 p.2.1 (by simpa using je) (by simpa using oE) (j4.2.2 p qC x (by simp)) with hF|hi
   ·exact absurd hF (RL Fl (by simpa using je) _)
   ·exact M5 hi
  have h2:=JV C x B A ⟨η,H,a,w,D⟩ FA hL W hA h
  obtain ⟨s1,h3,h4⟩:=uz.1 h2
  have wc:gY x.2.1.op=true:=by rw [Fl.op];rfl
  have D1:=D.restore h0 hF ha (W.un x (by simp) wc)
  have e1:=amb Fl h3
  rw [<-e1] at D1
  have nk:(A++x :: B).Perm (x :: (A++B)):=Jc
  have W':=(W.perm nk).tail h3
  obtain ⟨hEx,ar4⟩:=lL.1 Fx
  obtain ⟨s',η',R',g1,g2,g3,g4,g5,g6,g7⟩:=ih D1 W' (FA.out (Array.mem_toList_iff.2 (zY je)) (hL x (by simp)) (λf S h=>(C.sp f S h).lr) h3)
   (λy hy=>hL y (nk.mem_iff.2 (by simp only [er];exact .inr hy))) (n9.2 ⟨j4.1,(lL.1 j4.2.1).2,λp hp q hq=>j4.2.2 p hp q (by simp [hq])⟩)
   (λy hy=>by
    have:=nk.mem_iff.1 (wj y (by simp [hy]))
    rcases er.1 this with e2|h5
    ·exact absurd (by rw [e2]) (hEx y hy)
    ·exact h5) ar4 h4
  refine ⟨s',η',R',g1,g2,g3,g4,g5,λy=>?_,g7⟩
  rw [g6]
  constructor
  ·rintro ⟨h5,h6⟩
   refine ⟨nk.mem_iff.2 (by simp only [er];exact .inr h5),λz hz=>?_⟩
   rcases er.1 hz with rfl|hz
   ·rcases List.mem_append.1 h5 with h5|h5
    ·have:=j4.2.2 y h5 z (by simp);omega
    ·have:=(lL.1 j4.2.1).1 y h5;omega
   ·exact h6 z hz
  ·rintro ⟨h5,h6⟩
   refine ⟨?_,λz hz=>h6 z (by simp [hz])⟩
   rcases er.1 (nk.mem_iff.1 h5) with rfl|h5
   ·exact absurd rfl (h6 y (by simp))
   ·exact h5
theorem amY (C:X.Ok P) {r:Bool} {F:Fence} (RR:RF r F) {ops:Array Oper} (O:Ordered ops.toList) (hs:xd ops.toList=true) {Q:Exit->Act->World->Prop} (hQ:¬LetsOut Q) {k:St->Prop}
  (hk:∀s' η' H' a' w',Den f s' η' H' a' w'->k s'->Q .normal a' w') {E:List (Nat × Oper × Nat)} (hp:uO X a f E f1) {R R':List (Nat × Oper × Nat)} {Ks:Tmp->List Nat} {dO:Array Bool} (D:Den f1 s η H a w) (W:me ops s R) (FA:q_ ops.toList Ks s)
  (hL:∀y∈R,vO ops.toList Ks y.2.1 y.2.2) (rq:R.Pairwise (λx y=>x.1 < y.1)) (wj:∀x∈E,x∈R) (Fx:E.Pairwise (λx y=>x.1≠y.1)) (h:kG X ops.toList (ol R) s k) (zj:∀y,y∈R'↔y∈R/\∀x∈E,x.1≠y.1)
  (Li:pL ops R' dO):wpAnyIn F 0 P .any ops Q R'.length dO a w:=by
 obtain ⟨s',η',R2,D',W',Lx,hL',aeH,hm,h'⟩:=alb C O hp D W FA hL rq wj Fx h
 have hlen:R2.length=R'.length:=by
  have n1:R2.Nodup:=aeH.imp λh e=>by rw [e] at h;omega
  have n2:R'.Nodup:=Li.inc.imp λh e=>by rw [e] at h;omega
  exact ((R8 n1 n2).2 λy=>by rw [hm,zj]).length_eq
 refine acq RR hs hQ _ _ _ _ ?_
 refine acn C O hk _ R2 hlen W' aeH (λi hi=>?_) Li.all Li.down Lx hL' D' h'
 rw [Li.list i hi]
 constructor
 ·rintro ⟨y,hy,e⟩;exact ⟨y,(hm y).2 ((zj y).1 hy),e⟩
 ·rintro ⟨y,hy,e⟩;exact ⟨y,(zj y).2 ((hm y).1 hy),e⟩
theorem amc (C:X.Ok P) (I:oX X) {call:rU} (CO:Am P X call) {r:Bool} {F:Fence} (RR:RF r F) {ops:Array Oper} (O:Ordered ops.toList) {i0:Nat} (B:aeG X ops.toList i0) (hs:xd ops.toList=true) {Q:Exit->Act->World->Prop} (hQ:¬LetsOut Q) {k k1:St->Prop}
  (hk:∀s' η' H' a' w',Den f s' η' H' a' w'->k s'->Q .normal a' w') {hh:Nat × Oper × Nat} (ir:hh.1=i0) (xT:ops[hh.1]?=some hh.2.1) {R:List (Nat × Oper × Nat)} (aqo:R.Pairwise (λx y=>x.1 < y.1)) (vW:∀y∈R,i0 < y.1)
  (xU:∀y∈R,ops[y.1]?=some y.2.1)
  (eT:∀s2,k1 s2->∃Ks,me ops s2 R/\q_ ops.toList Ks s2/\(∀y∈R,vO ops.toList Ks y.2.1 y.2.2)/\kG X ops.toList (ol R) s2 k) :
  ∀(n:Nat) (A E R':List (Nat × Oper × Nat)) {dO:Array Bool} {Ks:Tmp->List Nat} {f1:Fr} {s:St} {η:Nat->Value} {H:bQ} {a:Act} {w:World},A.length+R'.length+1=n->(∀y∈A,y.1 < i0)->me ops s A->q_ ops.toList Ks s->(∀y∈A,vO ops.toList Ks y.2.1 y.2.2) ->
   (∀y,y∈R'↔y∈R/\∀x∈E,x.1≠y.1)->(∀x∈E,x∈R)->E.Pairwise (λx y=>x.1≠y.1)->(∀y∈R,xg X y.2.1=true->∀d,y.2.1.dst=some d->s.t[d]?=some .any)->pL ops (A++hh :: R') dO->uO X a f E f1->Den f1 s η H a w ->
   kG X ops.toList (ol A) s (λs1=>A0 X call f.sS hh.2.1 0 s1 k1)->wpAnyIn F 0 P .any ops Q n dO a w:=by
 intro n
 induction n with
 | zero=>intro A E R' _ _ _ _ _ _ _ _ hn;omega
 | succ n ih =>
  intro A E R' dO Ks f1 s η H a w hn EO W FA hL zj wj Fx VJ Li hp D h
  have qx:∀y∈A++hh :: R',ops[y.1]?=some y.2.1:=by
   intro y hy
   rcases List.mem_append.1 hy with hy|hy
   ·exact W.get y hy
   ·rcases er.1 hy with rfl|hy
    ·exact xT
    ·exact xU y ((zj y).1 hy).1
  obtain ⟨oc,hoc,hcg,Xm,k8,Qo⟩:=B.call
  have Pw:hh.2.1=oc:=by
   have h1:ops.toList[i0]?=some hh.2.1:=by rw [<-ir];simpa using xT
   rw [hoc] at h1;simpa using h1.symm
  have VK:∀y:Nat × Oper × Nat,ops[y.1]?=some y.2.1->(∀x∈E,x.1≠y.1)->∀x∈E,∀d,x.2.1.dst=some d->y.2.1.dst≠some d:=by
   intro y hy cZ x hx d hd Fy
   have je:=xU x (wj x hx)
   rcases B.back x.1 x.2.1 (vW x (wj x hx)) (by simpa using je) with hF|⟨hf,d',mX,et⟩
   ·obtain ⟨e,i,Qp,Fl⟩:=S_ (X:=X) (o:=x.2.1) (by
     have:∀{E f1},uO X a f E f1->∀x∈E,xg X x.2.1=true:=by
      intro E f1 hp
      induction hp with
      | nil=>intro x hx;cases hx
      | cons _ Fl _ _ _ ih =>
       intro x hx
       rcases er.1 hx with rfl|hx
       ·unfold xg
        rw [Fl.op]
        simp only [Fl.guard,Fl.dst,Fl.ti,Option.isNone_none,Option.isSome_some,Bool.and_true,Jf]
        exact mN.2 λe he=>by rw [Fl.after e he];rfl
       ·exact ih x hx
     exact this hp x hx)
    exact RL Fl (by simpa using je) _ hF
   ·rw [hd] at mX
    simp at mX
    subst mX
    exact et y.1 y.2.1 (by simpa using hy) (λe=>cZ x hx e.symm) Fy
  constructor
  ·intro hr
   cases A with
   | nil =>
    have:=pL.first O Li xT
    rw [hr] at this;cases this
   | cons x A =>
    have:=pL.first O (L:=A++hh :: R') Li (W.get x (by simp))
    rw [hr] at this;cases this
  ·intro i hi
   obtain ⟨h0,o,ho,xq⟩:=mem_ready.1 hi
   have aR:=(jh.1 ho).1
   obtain ⟨x,hx,rfl⟩:=(Li.list i aR).1 h0
   rcases List.mem_append.1 hx with Xn|xS
   ·
    obtain ⟨A1,A2,rfl⟩:=Ge Xn
    have je:=W.get x (by simp)
    have wk:=pL.step (A:=A1) (B:=A2++hh :: R') (by simpa using Li) hi
    have j4:=n9.1 (n9.1 Li.inc).1
    have hA:∀p∈A1,xo ops.toList p.2.1 x.2.1:=by
     intro p qC
     have oE:=W.get p (by simp [qC])
     rcases O.apart x.1 x.2.1 p.1 p.2.1 (by simpa using je) (by simpa using oE) (j4.2.2 p qC x (by simp)) with hF|tT
     ·exact absurd rfl (Li.yY hi hF (jh.1 oE).1 p (by simp [qC]))
     ·exact M5 tT
    have h2:=JV C x A2 A1 ⟨η,H,a,w,D⟩ FA hL W hA h
    obtain ⟨s1,h3,h4⟩:=uz.1 h2
    have nk:(A1++x :: A2).Perm (x :: (A1++A2)):=Jc
    have eN:x.2.1∈ops.toList:=Array.mem_toList_iff.2 (zY je)
    have Lx:=FA.out eN (hL x (by simp)) (λf S h=>(C.sp f S h).lr) h3
    have W':=(W.perm nk).tail h3
    have kJ:x.1 < i0:=EO x (by simp)
    have Xo:∀y∈R,x.1≠y.1:=λy hy e=>by have:=vW y hy;omega
    have aqp:∀y∈R,xg X y.2.1=true->∀d,y.2.1.dst=some d->s1.t[d]?=some .any:=by
     intro y hy hf d hd
     refine aoc h3 (VJ y hy hf d hd) λhxd=>?_
     rcases B.back y.1 y.2.1 (vW y hy) (by simpa using xU y hy) with hF|⟨_,d',mX,et⟩
     ·obtain ⟨e,i,Qp,Fl⟩:=S_ hf
      exact RL Fl (by simpa using xU y hy) _ hF
     ·rw [hd] at mX
      simp at mX
      subst mX
      exact et x.1 x.2.1 (by simpa using je) (Xo y hy) hxd
    have nh:=Ji C D je (λha=>W.un x (by simp) ha) (W.store x (by simp)) h3 (Q:=Q) (K:=λa' w'=>∃η' H',Den f1 s1 η' H' a' w') λη' H' a' w' D'=>⟨η',H',D'⟩
    unfold wpOp at nh
    unfold wpOpIn
    rw [je] at nh ⊢
    simp only at nh ⊢
    have fin:∀a' w',(∃η' H',Den f1 s1 η' H' a' w')->(∀d,x.2.1.dst≠some d->a'.tmps[d]?=a.tmps[d]?)->wpAnyIn F 0 P .any ops Q n (dO.setIfInBounds x.1 true) a' w':=by
     rintro a' w' ⟨η',H',D'⟩ G8
     refine ih (A1++A2) E R' (by simp at hn ⊢;omega) (λy hy=>EO y (nk.mem_iff.2 (by simp only [er];exact .inr hy))) W' Lx (λy hy=>hL y (nk.mem_iff.2 (by simp only [er];exact .inr hy))) zj wj Fx aqp (by simpa using wk)
      (hp.Ho λy hy d hd=>G8 d (VK x je (λz hz e=>by have:=vW z (wj z hz);omega) y hy d hd)) D' h4
    by_cases hw:Region.wanted x.2.1 (yielded ops a.tmps)=true
    ·rw [if_pos hw] at nh ⊢
     rcases nh with nh|nh
     ·have gz:yB x.2.1.op=false:=by
       have:=mN.1 hs x.2.1 eN
       cases cG:uH x.2.1.op
       ·rw [cG] at this;simpa using this
       ·cases fa:x.2.1.op<;>rw [fa] at cG<;>first|rfl|cases cG
      exact Oper.wpIn_mono (λa' w' hq=>fin a' w' hq.1 hq.2) (Z2 (Ay RR gz nh))
     ·exact absurd nh.2 hQ
    ·rw [if_neg hw] at nh ⊢
     exact ⟨λg _=>RR.fn g,fin _ _ nh λd hd=>BO a x.2.1.dst _ d hd⟩
   ·rcases er.1 xS with rfl|xS
    ·
     have A3:A=[]:=by
      cases A with
      | nil=>rfl
      | cons y A =>
       exfalso
       have:=B.yY y.1 (EO y (by simp))
       rw [<-ir] at this
       exact Li.yY hi this (jh.1 (W.get y (by simp))).1 y (by simp) rfl
     subst A3
     have wk:=pL.step (A:=[]) (B:=R') (by simpa using Li) hi
     have h1:A0 X call f.sS x.2.1 0 s k1:=h
     have gz:yB x.2.1.op=false:=by rw [Pw,Qo]
     unfold wpOpIn
     rw [xT]
     simp only
     rw [if_pos (by rw [Pw];simp [Region.wanted,hcg])]
     refine Oper.wpIn_mono (λa' w' hq=>?_) (Z2 (Ny C I CO RR (s:=s) D (l:=0) (by intro ha;rw [Pw,Xm] at ha;cases ha) (by intro ha;rw [Pw,k8] at ha;cases ha) gz (by rw [hp.sS];exact h1) (Q:=Q) (K:=λa' w'=>∃s2 η' H',Den f1 s2 η' H' a' w'/\k1 s2) λs' η' H' a' w' D' jL=>⟨s',η',H',D',jL⟩))
     obtain ⟨⟨s2,η2,H2,D2,my⟩,G8⟩:=hq
     obtain ⟨Ks2,W2,Xp,Xq,h2⟩:=eT s2 my
     have nW:n=R'.length:=by simp at hn;omega
     rw [nW]
     exact amY C RR O hs hQ hk (hp.Ho λy hy d hd=>G8 d (VK x xT (λz hz e=>by have:=vW z (wj z hz);omega) y hy d hd)) D2 W2 Xp Xq aqo wj Fx h2 zj (by simpa using wk)
    ·
     obtain ⟨Px,hxE⟩:=(zj x).1 xS
     have je:=xU x Px
     have hnF:¬ow ops.toList i0 x.1:=λhF=>Li.yY hi hF (by rw [<-ir];exact (jh.1 xT).1) hh (by simp) ir
     rcases B.back x.1 x.2.1 (vW x Px) (by simpa using je) with hF|⟨hf,d,hd,et⟩
     ·exact absurd hF hnF
     obtain ⟨e,ti,d',Fl⟩:=S_ hf
     have:d'=d:=by have:=Fl.dst;rw [hd] at this;simpa using this.symm
     subst this
     have ht:=VJ x Px hf d' hd
     obtain ⟨R1,R2,rfl⟩:=Ge xS
     have wk:=pL.step (A:=A++hh :: R1) (B:=R2) (by simpa using Li) hi
     unfold wpOpIn
     rw [je]
     simp only
     rw [if_pos (by simp [Region.wanted,Fl.guard])]
     refine D.early C Fl (.inl ht) RR λbl a' w' b1 b2 b3 b4 D'=>?_
     have dY:d' < a.tmps.size:=by
      have h1:a.tmps.toList.length=s.t.length:=jQ D.t
      have h2:d' < s.t.length:=(bX.1 ht).1
      rw [z_] at h1
      rw [h1];exact h2
     have qC:uO X a' f (x :: E) (f1.Cp bl (.cells ti.zero.cells e (0,0))):=.cons (hp.Ho λy hy Qp ar5=>b4 Qp λe=>VK x je hxE y hy Qp ar5 (by rw [hd,e])) Fl b1 b2 (b3 dY)
     have azl:(R1++x :: R2).Nodup:=(lL.1 (n9.1 Li.inc).2.1).2.imp λh e=>by rw [e] at h;omega
     have aqq:=(lL.1 (n9.1 Li.inc).2.1).2
     have adu:=n9.1 aqq
     refine ih A (x :: E) (R1++R2) (by simp at hn ⊢;omega) EO W FA hL (λy=>?_) (λy hy=>?_) (lL.2 ⟨λy hy e=>hxE y hy e.symm,Fx⟩) VJ (by simpa using wk) qC D' h
     ·constructor
      ·intro hy
       have AY:y∈R1++x :: R2:=by
        rcases List.mem_append.1 hy with h|h
        ·exact BF _ h
        ·exact DO _ (z7 _ h)
       obtain ⟨c1,c2⟩:=(zj y).1 AY
       refine ⟨c1,λz hz=>?_⟩
       rcases er.1 hz with rfl|hz
       ·rcases List.mem_append.1 hy with h|h
        ·have:=adu.2.2 y h z (by simp);omega
        ·have:=(lL.1 adu.2.1).1 y h;omega
       ·exact c2 z hz
      ·rintro ⟨c1,c2⟩
       have:=(zj y).2 ⟨c1,λz hz=>c2 z (by simp [hz])⟩
       rcases List.mem_append.1 this with h|h
       ·exact BF _ h
       ·rcases er.1 h with rfl|h
        ·exact absurd rfl (c2 y (by simp))
        ·exact DO _ h
     ·rcases er.1 hy with rfl|hy
      ·exact Px
      ·exact wj y hy
theorem amZ {q:Nat->Live} {t:List SV} {vs:List Value} (h:a_ η q H t vs) (d:Nat):a_ η q H (t.set d .any) vs:=by
 have hl:=jQ h
 by_cases hd:d < vs.length
 ·have h1:=yw h d (x:=.any) (u:=vs[d]) (by simp only [rel])
  have e:vs.set d vs[d]=vs:=by
   refine nL λj=>?_
   rw [iT]
   split
   ·rename_i hj;subst hj;simp [hd]
   ·rfl
  rwa [e] at h1
 ·rw [aae (by omega)];exact h
theorem SN {q:Nat->Live} {vs:List Value}:∀(ds:List Nat) {t:List SV},a_ η q H t vs->a_ η q H (mR ds t) vs
 | [],_,h=>h
 | d :: r,_,h=>SN r (amZ h d)
theorem aaC:∀(ds:List Nat) {t:List SV} {d:Nat},t[d]?=some .any->(mR ds t)[d]?=some .any
 | [],_,_,h=>h
 | d' :: r,t,d,h=>by
  rw [mR]
  refine aaC r ?_
  rw [iT]
  split
  ·rename_i e;subst e
   have:=(bX.1 h).1
   simp [this]
  ·exact h
theorem Ta:∀(ds:List Nat) {t:List SV} {d:Nat},d∈ds->d < t.length->(mR ds t)[d]?=some .any
 | [],_,_,h,_=>by cases h
 | d' :: r,t,d,h,hl=>by
  rw [mR]
  by_cases e:d=d'
  ·subst e
   exact aaC r (by rw [qn hl])
  ·rcases er.1 h with h|h
   ·exact absurd h e
   ·exact Ta r h (by simpa using hl)
theorem Z3:∀{ops:List Oper} {o:Oper} {d:Nat},o∈ops->xg X o=true->o.dst=some d->d∈GY X ops
 | [],_,_,h,_,_=>by cases h
 | x :: r,o,d,h,hf,hd=>by
  unfold GY
  rcases er.1 h with rfl|h
  ·rw [hf,hd];simp
  ·have:=Z3 h hf hd
   split
   ·exact z7 _ this
   ·exact this
theorem SP:∀{lb:List (Oper × Nat)} {b:List Slot},Ew lb b=true->∀x∈lb,gY x.1.op=true->b[x.2]?=some .un
 | [],_,_,x,hx,_=>by cases hx
 | (o,l) :: r,b,h,x,hx,ha=>by
  simp only [Ew,ei] at h
  rcases er.1 hx with rfl|hx
  ·have h1:=h.1
   rw [ha] at h1
   simp only at h1
   split at h1
   ·assumption
   ·cases h1
  ·exact SP h.2 x hx ha
theorem Nz {ops:List Oper} {n:Nat} (s:St):∀y∈items ops n,vO ops (sF ops (fk ops n) s) y.2.1 y.2.2:=by
 intro y hy t A ht hn wc hA
 have hm:y.2∈fk ops n:=by rw [<-Ae];exact Gb hy
 refine IZ hA ?_
 unfold Ej
 refine DO _ (DR.2 ⟨y.2,hm,?_⟩)
 rw [SK.2 ht,hn,wc]
 rfl
theorem alA (C:X.Ok P) (I:oX X) {call:rU} (CO:Am P X call) {r:Bool} {F:Fence} (RR:RF r F) {id:Nat} {ops:Array Oper} (hs:xd ops.toList=true) (hd:JF ops.toList=true) {i:Nat} (hb:OU X ops.toList i=true) {Q:Exit->Act->World->Prop} {k:St->Prop}
  (hk:∀s' η' H' a' w',Den f s' η' H' a' w'->k s'->Q .normal a' w') (D:Den f s η H a w) (h:VI X call f.sS ops.toList i s k):(Code.region id ops true).wpIn F 0 P Q a w:=by
 refine wpIn_mono (Q:=wg (Q .normal)) ?_ (λe a' w' h=>by cases e<;>first|exact h|exact h.elim)
 have hk:∀s' η' H' a' w',Den f s' η' H' a' w'->k s'->wg (Q .normal) .normal a' w':=hk
 have O:=Zq hd
 have B:=alz hb
 unfold VI at h
 split at h
 ·exact h.elim
 rename_i fa ho
 split at h
 ·exact h.elim
 rename_i Ht
 simp only [ei] at Ht
 obtain ⟨Ht,fO⟩:=Ht
 let n:=s.b.length
 let s0:St:={ Cc X ops.toList i s with b:=s.b++jt (qX ops.toList) }
 have D0:Den f (Cc X ops.toList i s) η H a w:={ D with t:=SN _ D.t }
 have D1:=D0.ext (qX ops.toList)
 have D2:Den f s0 η H a { w with drawn:=w.drawn+1 }:=D1.grown (RK w none)
 have W:me ops s0 (items ops.toList n):=RZ hs (Cc X ops.toList i s)
 have hlen:(items ops.toList n).length=ops.size:=by
  have:=congrArg List.length (vw ops.toList n)
  simpa using this
 have EP:i < ops.size:=by
  have:=(bX.1 ho).1
  simpa using this
 have iw:items ops.toList n=(items ops.toList n).take i++(items ops.toList n)[i]'(by rw [hlen];exact EP) :: (items ops.toList n).drop (i+1):=by
  rw [aai,List.take_append_drop]
 have EN:∀(j:Nat) (x:Nat × Oper × Nat),(items ops.toList n)[j]?=some x->x.1=j/\ops[j]?=some x.2.1/\(fk ops.toList n)[j]?=some x.2:=by
  intro j x hx
  have h1:=W.get x (b_ hx)
  have h2:((items ops.toList n).map (·.1))[j]?=some x.1:=by rw [mM,hx];rfl
  rw [vw,Gc (by
   have:=(bX.1 hx).1
   rw [hlen] at this;simpa using this)] at h2
  simp at h2
  have h3:(ol (items ops.toList n))[j]?=some x.2:=by unfold ol;rw [mM,hx];rfl
  rw [Ae] at h3
  exact ⟨h2.symm,by rw [h2];exact h1,h3⟩
 have Ly:(items ops.toList n)[i]?=some ((items ops.toList n)[i]'(by rw [hlen];exact EP)):=eh _
 generalize (items ops.toList n)[i]'(by rw [hlen];exact EP)=hh at iw Ly
 obtain ⟨HZ,Qq,_⟩:=EN i hh Ly
 have Py:hh.2.1=fa:=by
  have:ops[i]?=some fa:=by simpa using ho
  rw [Qq] at this;simpa using this
 have inc:(items ops.toList n).Pairwise (λx y=>x.1 < y.1):=by
  have h2:((items ops.toList n).map (·.1)).Pairwise (· < ·):=by rw [vw];exact Se
  rw [yu] at h2
  exact h2
 have KC:=inc
 rw [iw] at KC
 have Hu:=n9.1 KC
 have Xr:ol ((items ops.toList n).take i)=(fk ops.toList n).take i:=by unfold ol;rw [SB];show (ol (items ops.toList n)).take i=_;rw [Ae]
 have Lz:ol ((items ops.toList n).drop (i+1))=(fk ops.toList n).drop (i+1):=by unfold ol;rw [List.map_drop];show (ol (items ops.toList n)).drop (i+1)=_;rw [Ae]
 have FA:q_ ops.toList (sF ops.toList (fk ops.toList n) (Cc X ops.toList i s)) s0 :=
  ⟨λt A hA l hl=>by
   have hl:iK (Cc X ops.toList i s) t=some l:=hl
   exact IZ hA (by simp [Ej,hl]),Nx,JG Ht⟩
 have vW:∀y∈(items ops.toList n).drop (i+1),i < y.1:=λy hy=>by rw [<-HZ];exact (lL.1 Hu.2.1).1 y hy
 refine wpIn_region_any C.mixed ?_
 refine amc C I CO RR O B hs JH hk (k1:=λs2=>match Ew ((fk ops.toList s.b.length).drop (i+1)) s2.b&&Cm ops.toList (sF ops.toList (fk ops.toList s.b.length) s2) ops.toList with
    | true=>kG X ops.toList ((fk ops.toList s.b.length).drop (i+1)) s2 k
    | false=>False) HZ (by rw [HZ];exact Qq) (R:=(items ops.toList n).drop (i+1)) (lL.1 Hu.2.1).2 vW
  (λy hy=>W.get y (rL hy)) (λs2 my=>?_) ops.size ((items ops.toList n).take i) [] ((items ops.toList n).drop (i+1)) ?_ (λy hy=>by have:=Hu.2.2 y hy hh (by simp);omega) (W.sub (Nh _ _)) FA
  (λy hy=>Nz (Cc X ops.toList i s) y (uC hy)) (λy=>by simp) (λx hx=>by cases hx) List.Pairwise.nil (λy hy hf d hd=>?_) ⟨?_,?_,?_,?_⟩ .nil D2 ?_
 ·split at my
  ·rename_i hq
   simp only [ei] at hq
   refine ⟨sF ops.toList (fk ops.toList n) s2,⟨λx hx=>W.get x (rL hx),λx hx=>W.store x (rL hx),λx hx ha=>?_,W.i_.sublist (List.drop_sublist _ _)⟩,
    ⟨λt A hA l hl=>IZ hA (by simp [Ej,hl]),Nx,JG hq.2⟩,λy hy=>Nz s2 y (rL hy),by rw [Lz];exact my⟩
   refine SP hq.1 x.2 ?_ ha
   rw [<-Lz]
   exact Gb hx
  ·exact my.elim
 ·simp only [lu,vy,hlen];omega
 ·obtain ⟨j,hj⟩:=BE.1 hy
  rw [lq] at hj
  obtain ⟨e1,e2,_⟩:=EN _ _ hj
  have eN:y.2.1∈ops.toList.drop (i+1):=by
   refine b_ (i:=j) ?_
   rw [lq]
   simpa using e2
  have Qr:=Z3 eN hf hd
  have ar6:=mN.1 fO d Qr
  exact Ta _ Qr (Gu ar6)
 ·rw [<-iw];exact inc
 ·intro j hj
  rw [<-iw]
  have:(Array.replicate ops.size false).getD j true=false:=by simp [hj]
  simp only [this,true_iff]
  have hm:j∈(items ops.toList n).map (·.1):=by rw [vw];simpa using hj
  obtain ⟨x,hx,rfl⟩:=j3.1 hm
  exact ⟨x,hx,rfl⟩
 ·intro j
  by_cases hj:j < ops.size
  ·right;left;simp [hj]
  ·right;right;omega
 ·intro j o e ho hl
  exfalso
  by_cases hj:j < ops.size
  ·simp [hj] at hl
  ·simp [hj] at hl
 ·rw [Xr,Py];exact h
end
end Go.Vc
