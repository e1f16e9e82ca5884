import Derived.Test.YthnhbemmlfaihaaGreatU4
import Derived.OrdersIn
set_option linter.unusedVariables false
set_option linter.unusedSimpArgs false
set_option maxRecDepth 10000
set_option maxHeartbeats 64000000
namespace Go.Vc
open Go
def Cs:List Oper->List Nat->List Nat
 | [],acc=>acc
 | o :: r,acc=>Cs r (acc++[sg acc o])
def xE (X:Ctx) (o:Oper):Bool:=match o.op with
 | .alloc e=>o.guard.isNone&&(o.after.toList.all λe=>!Region.binds .any e)&&o.dst.isSome&&(X.tt e).isSome
 | _=>false
def afz (ops:List Oper) (j:Nat):Nat->Option Tmp->Bool
 | _,none=>false
 | _,some d=>ops.zipIdx.all λp=>Nat.beq p.2 j||!KC p.1 d
def ON (X:Ctx) (ops:List Oper) (ms:List Nat) (i:Nat):List Oper->Nat->Bool
 | [],_=>true
 | o :: r,j=>((ms.getD j 0).testBit i||(xE X o&&afz ops j 0 o.dst))&&ON X ops ms i r (j+1)
def PH (X:Ctx) (ops:List Oper) (i:Nat):Bool :=
 (match ops[i]? with
  | some o=>o.guard.isNone&&(!ie o.op&&(!uY o.op&&!yP o.op))
  | none=>false)&&((List.range i).all λj=>((Cs ops []).getD i 0).testBit j)&&ON X ops (Cs ops []) i (ops.drop (i+1)) (i+1)
def KF (X:Ctx):List Oper->Nat->Option Nat
 | [],_=>none
 | o :: r,j=>match o.op with
  | .call c=>match c.callee with
   | .value (.func f)=>match X.sp f with
    | some _=>KF X r (j+1)
    | none=>match X.inl f with
     | some _=>some j
     | none=>KF X r (j+1)
   | _=>KF X r (j+1)
  | _=>KF X r (j+1)
def Hk (X:Ctx):List Oper->List Nat
 | []=>[]
 | o :: r=>match xE X o,o.dst with
  | true,some d=>d :: Hk X r
  | _,_=>Hk X r
def ng:List Nat->List SV->List SV
 | [],t=>t
 | d :: r,t=>ng r (t.set d .any)
def EL:List (Oper × Nat)->List Slot->Bool
 | [],_=>true
 | (o,l) :: r,b=>(match ie o.op with
  | true=>match b[l]? with
   | some .un=>true
   | _=>false
  | false=>true)&&EL r b
def Ct (X:Ctx) (ops:List Oper) (i:Nat) (s:St):St:=⟨ng (Hk X (ops.drop (i+1))) s.t,s.b⟩
def Wz (X:Ctx) (call:ss) (S:List SV) (ops:List Oper) (i:Nat) (s:St) (k:St->Prop):Prop:=match ops[i]? with
 | none=>False
 | some h=>match aft ops (Ct X ops i s)&&(Hk X (ops.drop (i+1))).all λd=>Nat.blt d s.t.length with
  | false=>False
  | true=>kO X ops ((fA ops s.b.length).take i) { Ct X ops i s with b:=s.b++jI (rF ops) } λs1 =>
   Bd X call S h 0 s1 λs2=>match EL ((fA ops s.b.length).drop (i+1)) s2.b&&CF ops (sZ ops (fA ops s.b.length) s2) ops with
    | true=>kO X ops ((fA ops s.b.length).drop (i+1)) s2 k
    | false=>False
theorem SQ (ops:List Oper):∀(r pre:List Oper) (acc:List Nat),ops=pre++r->acc.length=pre.length ->
  (∀i j,(acc.getD i 0).testBit j=true->oK ops j i)->∀i j,((Cs r acc).getD i 0).testBit j=true->oK ops j i
 | [],pre,acc,_,_,hm=>hm
 | o :: r,pre,acc,he,hl,hm=>by
  have iT:ops[pre.length]?=some o:=by rw [he];simp
  have EK:∀j,(sg acc o).testBit j=true->oK ops j pre.length:=by
   intro j hj S hS hi
   rcases TW acc o.after.toList 0 j hj with h|⟨e,h4,h5,h6⟩
   ·simp at h
   ·have C6:=hi o e iT h4 h5
    rcases h6 with h6|h6
    ·rw [<-h6];exact C6
    ·exact hm e.on j h6 S hS λo' e' jn gR mb=>hS e.on o' e' jn C6 gR mb
  refine SQ ops r (pre++[o]) (acc++[sg acc o]) (by rw [he];simp) (by simp [hl]) λi j hj=>?_
  rw [iE] at hj
  by_cases aR:i < acc.length
  ·rw [nV aR] at hj
   exact hm i j (by rw [iE];exact hj)
  ·rw [uS (by omega)] at hj
   by_cases qX:i=acc.length
   ·subst qX
    rw [hl]
    exact EK j (by simpa using hj)
   ·have:([sg acc o]:List Nat)[i - acc.length]?=none:=by simp;omega
    rw [this] at hj
    simp at hj
structure afA (X:Ctx) (ops:List Oper) (i:Nat):Prop where
 call:∃o,ops[i]?=some o/\o.guard=none/\ie o.op=false/\uY o.op=false/\yP o.op=false
 zj:∀j,j < i->oK ops j i
 back:∀j o,i < j->ops[j]?=some o->oK ops i j\/(xE X o=true/\∃d,o.dst=some d/\∀j' o',ops[j']?=some o'->j'≠j->o'.dst≠some d)
theorem aaK {X:Ctx} {ops:List Oper} {ms:List Nat} {i:Nat} (hm:∀a b,(ms.getD a 0).testBit b=true->oK ops b a):∀(r:List Oper) (j0:Nat),ON X ops ms i r j0=true ->
  ∀j o,r[j]?=some o->oK ops i (j0+j)\/(xE X o=true/\∃d,o.dst=some d/\∀j' o',ops[j']?=some o'->j'≠j0+j->o'.dst≠some d)
 | [],_,_,j,o,h=>by simp at h
 | x :: r,j0,hb,j,o,h=>by
  simp only [ON,eh,vU] at hb
  cases j with
  | zero =>
   simp at h;subst h
   rcases hb.1 with h1|⟨h1,h2⟩
   ·exact .inl (hm _ _ h1)
   ·right
    refine ⟨h1,?_⟩
    unfold afz at h2
    split at h2
    ·cases h2
    ·rename_i d hd
     refine ⟨d,hd,λj' o' jn cO mh=>?_⟩
     have:=m8.1 h2 (o',j') (by rw [GW];simpa using jn)
     simp only [vU,pU] at this
     rcases this with h3|h3
     ·exact cO (by rw [pc h3];rfl)
     ·rw [Tz.2 mh] at h3;cases h3
  | succ j =>
   have:=aaK hm r (j0+1) hb.2 j o (by simpa using h)
   rwa [show j0+1+j=j0+(j+1) by omega] at this
theorem amv {X:Ctx} {ops:List Oper} {i:Nat} (h:PH X ops i=true):afA X ops i:=by
 have hm:=SQ ops ops [] [] rfl rfl (λi j h=>by simp at h)
 unfold PH at h
 simp only [eh] at h
 obtain ⟨⟨h1,h2⟩,h3⟩:=h
 refine ⟨?_,λj hj=>hm i j (by simpa using m8.1 h2 j (by simpa using hj)),λj o hj ho=>?_⟩
 ·split at h1
  ·rename_i o ho
   simp only [eh,pU] at h1
   exact ⟨o,ho,by simpa using h1.1,h1.2.1,h1.2.2.1,h1.2.2.2⟩
  ·cases h1
 ·have:=aaK hm (ops.drop (i+1)) (i+1) h3 (j - (i+1)) o (by rw [lI,show i+1+(j - (i+1))=j by omega];exact ho)
  rwa [show i+1+(j - (i+1))=j by omega] at this
structure Float (X:Ctx) (o:Oper) (e:TypeId) (i:TI) (d:Tmp):Prop where
 op:o.op=.alloc e
 dst:o.dst=some d
 ti:X.tt e=some i
 guard:o.guard=none
 after:∀e∈o.after.toList,Region.binds .any e=false
theorem TZ {X:Ctx} {o:Oper} (h:xE X o=true):∃e i d,Float X o e i d:=by
 unfold xE at h
 split at h
 ·rename_i e he
  simp only [eh] at h
  obtain ⟨⟨⟨h1,h2⟩,h3⟩,h4⟩:=h
  obtain ⟨d,hd⟩:=uT.1 h3
  obtain ⟨i,hi⟩:=uT.1 h4
  exact ⟨e,i,d,he,hd,hi,by simpa using h1,λe he=>by simpa using m8.1 h2 e he⟩
 ·cases h
theorem SC {X:Ctx} {ops:List Oper} {o:Oper} {e:TypeId} {ti:TI} {d:Tmp} (F:Float X o e ti d) {i:Nat} (hi:ops[i]?=some o) (j:Nat):¬oK ops j i:=by
 intro h
 refine h (λ_=>False) (λ_ _ _ _ h _ _=>h) λo' e' jn gR mb=>?_
 rw [hi] at jn
 simp at jn
 subst jn
 rw [F.after e' gR] at mb
 cases mb
def Fr.CI (f:Fr) (bl:Nat) (o:Obj):Fr:={ f with F:=λb=>if b=bl then some o else f.F b }
inductive vb (X:Ctx) (a:Act) (f:Fr):List (Nat × Oper × Nat)->Fr->Prop
 | nil:vb X a f [] f
 | cons {E:List (Nat × Oper × Nat)} {f1:Fr} {x:Nat × Oper × Nat} {e:TypeId} {i:TI} {d:Tmp} {bl:Nat}:vb X a f E f1->Float X x.2.1 e i d->f1.H0 bl=none->f1.F bl=none ->
  a.tmps[d]?=some (.pointer (some ⟨bl,0,none⟩))->vb X a f (x :: E) (f1.CI bl (.cells i.zero.cells e (0,0)))
section
variable {P:Program} {X:Ctx} {f f1:Fr} {s:St} {η:Nat->Value} {H:bO} {a a':Act} {w:World} {o:Oper}
theorem vb.sS {E:List (Nat × Oper × Nat)} (h:vb X a f E f1):f1.sS=f.sS:=by
 induction h with
 | nil=>rfl
 | cons _ _ _ _ _ ih=>exact ih
theorem vb.HJ {E:List (Nat × Oper × Nat)} (h:vb X a f E f1) (ha:∀x∈E,∀d,x.2.1.dst=some d->a'.tmps[d]?=a.tmps[d]?):vb X a' f E f1:=by
 induction h with
 | nil=>exact .nil
 | cons _ hf h1 h2 h3 ih=>exact .cons (ih λx hx=>ha x (by simp [hx])) hf h1 h2 (by rw [ha _ (by simp) _ hf.dst];exact h3)
theorem adj {r:Bool} {F:Fence} (R:RF r F) {ops:Array Oper} {Q:Exit->Act->World->Prop} (hs:xA ops.toList=true) (hQ:¬LetsOut Q):∀(n:Nat) (dO:Array Bool) (a:Act) (w:World),
  wpAny P .any ops Q n dO a w->wpAnyIn F 0 P .any ops Q n dO a w:=by
 intro n
 induction n with
 | zero=>intro dO a w h;exact h
 | succ n ih =>
  intro dO a w h
  refine ⟨h.1,λi hi=>?_⟩
  have h1:=h.2 i hi
  unfold wpOp at h1
  unfold wpOpIn
  cases ho:ops[i]? with
  | none=>rw [ho] at h1;exact ih _ _ _ h1
  | some o =>
   rw [ho] at h1
   simp only at h1 ⊢
   by_cases hw:Region.wanted o (yielded ops a.tmps)=true
   ·rw [if_pos hw] at h1 ⊢
    rcases h1 with h1|h1
    ·refine Oper.wpIn_mono (λa w h=>ih _ a w h) (AO R ?_ h1)
     have:=m8.1 hs o (by simpa using Al ho)
     cases cJ:uY o.op
     ·rw [cJ] at this;simpa using this
     ·cases fk:o.op<;>rw [fk] at cJ<;>first|rfl|cases cJ
    ·exact absurd h1.2 hQ
   ·rw [if_neg hw] at h1 ⊢
    exact ⟨λg _=>R.fn g,ih _ _ _ h1⟩
theorem B6 (a:Act) (dst:Option Tmp) (v:Value) (d:Tmp) (h:dst≠some d):(a.put dst v).tmps[d]?=a.tmps[d]?:=by
 cases dst with
 | none=>rfl
 | some d' =>
  have:d'≠d:=λe=>h (by rw [e])
  simp [Act.put,SX this]
theorem aaL {F:Fence} {K:Act->World->Prop} {Q:Exit->Act->World->Prop} (h:o.wpIn F 0 P a w K Q):o.wpIn F 0 P a w (λa' w'=>K a' w'/\∀d,o.dst≠some d->a'.tmps[d]?=a.tmps[d]?) Q:=by
 refine ⟨h.1,?_⟩
 have h2:=h.2
 generalize (o.semAt F.round a.eval).run P w=z at *
 cases z with
 | ok x w' =>
  cases x<;>simp only [Oper.uponIn] at h2 ⊢
  case value v=>exact ⟨h2,λd hd=>B6 a o.dst v d hd⟩
  case skip=>exact ⟨h2,λd hd=>B6 a o.dst _ d hd⟩
  case defer dd=>exact ⟨h2,λd hd=>B6 { a with defers:=dd :: a.defers } o.dst _ d hd⟩
  case enter=>exact ⟨h2.1,CallsIn.mono h2.2 λe Ma he=>by cases e<;>first|exact ⟨he,λd hd=>B6 a o.dst _ d hd⟩|exact he⟩
  case row=>exact ⟨h2.1,RowsIn.mono h2.2 λv Ma he=>⟨he,λd hd=>B6 a o.dst _ d hd⟩⟩
  case round=>exact ⟨h2.1,RoundIn.mono h2.2 λe Ma he=>by cases e<;>first|exact ⟨he,λd hd=>B6 a o.dst _ d hd⟩|exact he⟩
  all_goals exact h2
 | halt x w'=>cases x<;>simp only [Oper.uponIn] at h2 ⊢<;>exact h2
theorem ao5 (t:List SV) (d:Nat) (h:t[d]?=some .any\/t[d]?=none):t.set d .any=t:=by
 rcases h with h|h
 ·exact Ow t d _ h
 ·exact aaX (by simpa using h)
theorem Den.early (C:X.Ok P) (D:Den f1 s η H a w) {e:TypeId} {i:TI} {d:Tmp} (Fl:Float X o e i d) (ht:s.t[d]?=some .any\/s.t[d]?=none) {F:Fence} {r:Bool} (R:RF r F) {K:Act->World->Prop} {Q:Exit->Act->World->Prop}
  (hK:∀bl a' w',f1.H0 bl=none->f1.F bl=none->(d < a.tmps.size->a'.tmps[d]?=some (.pointer (some ⟨bl,0,none⟩)))->(∀j,j≠d->a'.tmps[j]?=a.tmps[j]?)->Den (f1.CI bl (.cells i.zero.cells e (0,0))) s η H a' w'->K a' w'):o.wpIn F 0 P a w K Q:=by
 refine AO R (by rw [Fl.op];rfl) ?_
 have I:=C.tt _ _ Fl.ti
 have hr:(execOp a.eval o).run P w=.ok (.value (.pointer (some ⟨w.heap.size,0,none⟩))) (w.alloc (.cells i.zero.cells e)):=by
  have hz:=JU I w
  simp [execOp,Fl.op,Instr.alloc,hz,Vc.SM,Result.andThen]
 unfold Oper.wp
 rw [hr]
 have eb:∀b o,w.heap[b]?=some o->b < w.heap.size:=λb o h=>(ju.1 h).1
 have X7:f1.H0 w.heap.size=none:=by
  cases h:f1.H0 w.heap.size with
  | none=>rfl
  | some o'=>exact absurd (eb _ _ (D.hw _ _ (D.h0 _ _ h))) (by omega)
 have hF:f1.F w.heap.size=none:=by
  cases h:f1.F w.heap.size with
  | none=>rfl
  | some o'=>exact absurd (eb _ _ (D.fw _ _ h)) (by omega)
 refine hK w.heap.size _ _ X7 hF (λhd=>by rw [Fl.dst];simp [Act.put,hd]) (λj hj=>B6 a o.dst _ j (by rw [Fl.dst];exact λe=>hj (by simpa using e.symm))) ?_
 have D1:=D.grown (World.grownBy_alloc w (.cells i.zero.cells e) none)
 have D2:=Den.put D1 o.dst (x:=.any) (v:=.pointer (some ⟨w.heap.size,0,none⟩)) (by simp only [rel])
 rw [Fl.dst] at D2
 simp only [ao5 s.t d ht] at D2
 rw [<-Fl.dst] at D2
 exact {
  t:=D2.t
  sv:=D2.sv
  d:=D2.d
  h0:=D2.h0
  hw:=D2.hw
  fw:=λb ob h=>by
   simp only [Fr.CI] at h
   split at h
   ·rename_i e1
    subst e1
    cases h
    exact (MapKept.heap_alloc w _).1
   ·exact D2.fw b ob h
  hf:=λb h=>by
   rcases D2.hf b h with h1|h1
   ·exact .inl h1
   ·right
    simp only [Fr.CI]
    rw [if_neg]
    ·exact h1
    ·intro e1
     cases hh:H b with
     | none=>exact h hh
     | some ob=>have:=eb _ _ (D.hw _ _ hh);omega
  sl:=D2.sl
  dj:=D2.dj
  dh:=λl b h1 h2=>by
   have:=D2.dh l b h1 h2
   refine ⟨this.1,?_⟩
   simp only [Fr.CI]
   rw [if_neg]
   ·exact this.2
   ·have:=D.Eh h1 h2;omega
  os:=D2.os
  tape:=D2.tape
  out:=D2.out }
theorem Den.restore {e:TypeId} {i:TI} {d l bl:Nat} (D:Den (f1.CI bl (.cells i.zero.cells e (0,0))) s η H a w) (h0:f1.H0 bl=none) (hF:f1.F bl=none) (ha:a.tmps[d]?=some (.pointer (some ⟨bl,0,none⟩)))
  (hl:s.b[l]?=some .un):Den f1 ⟨s.t.set d (.ptr l 0),s.b.set l (.fix e (i.zero.cells.toList.map l6))⟩ (nZ η l (.pointer (some ⟨bl,0,none⟩))) H a w:=by
 have aR:=(bW.1 hl).1
 have Iw:∀b,(f1.CI bl (.cells i.zero.cells e (0,0))).F b=if b=bl then some (.cells i.zero.cells e (0,0)) else f1.F b:=λb=>rfl
 have hq:∀k,bd (s.b.set l (.fix e (i.zero.cells.toList.map l6))) k=if k=l then .live else bd s.b k:=λk=>by rw [uX k aR];rfl
 have Rg:bd s.b l=.un:=df hl
 have T:jR η (nZ η l (.pointer (some ⟨bl,0,none⟩))) (bd s.b) (bd (s.b.set l (.fix e (i.zero.cells.toList.map l6)))):=by
  intro k
  by_cases hk:k=l
  ·subst hk;rw [Rg];trivial
  ·rw [hq,if_neg hk,lH _ _ _ _ hk]
   generalize bd s.b k=z
   cases z<;>simp
 have hH:H bl=none:=by
  cases h:H bl with
  | none=>rfl
  | some ob =>
   rcases D.hf bl (by rw [h];simp) with h1|h1
   ·exact absurd h0 h1
   ·rw [Iw,if_pos rfl] at h1;cases h1
 have pY:∀k,k≠l->bd (s.b.set l (.fix e (i.zero.cells.toList.map l6))) k=.live->bd s.b k=.live:=λk hk h=>by rwa [hq,if_neg hk] at h
 have cO:∀k b,bd s.b k=.live->dp (η k)=some b->b≠bl:=by
  intro k b h1 h2 e1
  have:=(D.dh k b h1 h2).2
  rw [Iw,if_pos e1] at this
  cases this
 exact {
  t:=by
   have h1:=iZ T (bO.le.refl H) _ _ D.t
   have h2:=yL h1 d (x:=.ptr l 0) (u:=.pointer (some ⟨bl,0,none⟩)) (by
    simp only [rel,hq,if_true]
    exact ⟨bl,gd _ _ _,rfl⟩)
   have e1:a.tmps.toList.set d (.pointer (some ⟨bl,0,none⟩))=a.tmps.toList:=by
    refine oy λj=>?_
    rw [ja]
    split
    ·rename_i hj;subst hj
     have:a.tmps.toList[d]?=some (.pointer (some ⟨bl,0,none⟩)):=by simpa using ha
     rw [this]
     have:=(bW.1 this).1
     simp only [this,if_true]
    ·rfl
   rw [e1] at h2
   exact h2
  sv:=iZ T (bO.le.refl H) _ _ D.sv
  d:=D.d
  h0:=D.h0
  hw:=D.hw
  fw:=λb ob h=>D.fw b ob (by rw [Iw,if_neg (λe1=>by rw [e1,hF] at h;cases h)];exact h)
  hf:=λb h=>by
   rcases D.hf b h with h1|h1
   ·exact .inl h1
   ·right
    rw [Iw] at h1
    split at h1
    ·cases h1
    ·exact h1
  sl:=λk x hx=>by
   by_cases hk:k=l
   ·subst hk
    rw [o9 aR] at hx
    simp at hx;subst hx
    exact ⟨bl,i.zero.cells,gd _ _ _,D.fw bl _ (by rw [Iw,if_pos rfl]),BR _ _ _ _⟩
   ·rw [fb (λe1=>hk e1.symm)] at hx
    exact (D.sl k x hx).kept T (bO.le.refl H) (lH _ _ _ _ hk) λ_ _=>rfl
  dj:=λk k' b h1 h2 h3 h4=>by
   by_cases hk:k=l<;>by_cases jX:k'=l
   ·rw [hk,jX]
   ·exfalso
    subst hk
    rw [gd] at h3
    rw [lH _ _ _ _ jX] at h4
    simp [dp] at h3
    exact cO k' b (pY k' jX h2) h4 h3.symm
   ·exfalso
    subst jX
    rw [gd] at h4
    rw [lH _ _ _ _ hk] at h3
    simp [dp] at h4
    exact cO k b (pY k hk h1) h3 h4.symm
   ·rw [lH _ _ _ _ hk] at h3
    rw [lH _ _ _ _ jX] at h4
    exact D.dj k k' b (pY k hk h1) (pY k' jX h2) h3 h4
  dh:=λk b h1 h2=>by
   by_cases hk:k=l
   ·subst hk
    rw [gd] at h2
    simp [dp] at h2
    subst h2
    exact ⟨hH,hF⟩
   ·rw [lH _ _ _ _ hk] at h2
    have h3:=D.dh k b (pY k hk h1) h2
    refine ⟨h3.1,?_⟩
    have h4:=h3.2
    rw [Iw] at h4
    split at h4
    ·cases h4
    ·exact h4
  os:=D.os
  tape:=D.tape
  out:=D.out }
structure pX (ops:Array Oper) (L:List (Nat × Oper × Nat)) (dO:Array Bool):Prop where
 inc:L.Pairwise (λx y=>x.1 < y.1)
 list:∀i,i < ops.size->(dO.getD i true=false↔∃x∈L,x.1=i)
 all:∀i,dO.getD i false=true\/dO.getD i true=false\/ops.size<=i
 down:∀i o e,ops[i]?=some o->dO.getD i false=true->e∈o.after.toList->Region.binds .any e=true->dO.getD e.on false=true
theorem pX.step {ops:Array Oper} {A B:List (Nat × Oper × Nat)} {x:Nat × Oper × Nat} {dO:Array Bool} (h:pX ops (A++x :: B) dO) (hr:x.1∈Region.ready .any ops dO) :
  pX ops (A++B) (dO.setIfInBounds x.1 true):=by
 obtain ⟨rP,nG,gF,AP⟩:=h
 obtain ⟨h0,o,ho,xM⟩:=mem_ready.1 hr
 have ko:=ow.1 rP
 have K6:x.1 < dO.size:=by
  rcases vY x.1 dO.size with h|h
  ·exact h
  ·simp [GZ h] at h0
 have ud:∀j (d:Bool),(dO.setIfInBounds x.1 true).getD j d=if x.1=j then true else dO.getD j d:=by
  intro j d
  by_cases hj:x.1=j
  ·subst hj;simp [K6]
  ·rw [getD_set_ne d hj,if_neg hj]
 constructor
 ·exact ow.2 ⟨ko.1,(lW.1 ko.2.1).2,λp hp q hq=>ko.2.2 p hp q (by simp [hq])⟩
 ·intro j hj
  rw [ud]
  by_cases jw:x.1=j
  ·subst jw
   simp only [if_true]
   refine ⟨λh=>(by cases h),λ⟨y,hy,L8⟩=>?_⟩
   exfalso
   rcases eP.1 hy with hy|hy
   ·have:=ko.2.2 y hy x (by simp);omega
   ·have:=(lW.1 ko.2.1).1 y hy;omega
  ·rw [if_neg jw,nG j hj]
   constructor
   ·rintro ⟨y,hy,rfl⟩
    rcases eP.1 hy with hy|hy
    ·exact ⟨y,by simp [hy],rfl⟩
    ·rcases eB.1 hy with rfl|hy
     ·exact absurd rfl jw
     ·exact ⟨y,by simp [hy],rfl⟩
   ·rintro ⟨y,hy,rfl⟩
    rcases eP.1 hy with hy|hy
    ·exact ⟨y,by simp [hy],rfl⟩
    ·exact ⟨y,by simp [hy],rfl⟩
 ·intro j
  rw [ud,ud]
  by_cases jw:x.1=j
  ·simp [jw]
  ·rw [if_neg jw,if_neg jw];exact gF j
 ·intro j o' e hj hl he hb
  rw [ud] at hl ⊢
  split at hl
  ·rename_i jw
   subst jw
   rw [ho] at hj;simp at hj;subst hj
   split
   ·rfl
   ·exact xM e (by simpa using he) hb
  ·split
   ·rfl
   ·exact AP j o' e hj hl he hb
theorem pX.first {ops:Array Oper} (O:Ordered ops.toList) {L:List (Nat × Oper × Nat)} {x:Nat × Oper × Nat} {dO:Array Bool} (h:pX ops (x :: L) dO) (hx:ops[x.1]?=some x.2.1):x.1∈Region.ready .any ops dO:=by
 have aR:=(ju.1 hx).1
 refine mem_ready.2 ⟨(h.list x.1 aR).2 ⟨x,by simp,rfl⟩,x.2.1,hx,λe he hb=>?_⟩
 have wB:=O.back x.1 x.2.1 e (by simpa using hx) (by simpa using he) hb
 rcases h.all e.on with h1|h1|h1
 ·exact h1
 ·obtain ⟨y,hy,zF⟩:=(h.list e.on (by omega)).1 h1
  rcases eB.1 hy with rfl|hy
  ·omega
  ·have:=(lW.1 h.inc).1 y hy;omega
 ·omega
theorem pX.zj {ops:Array Oper} {L:List (Nat × Oper × Nat)} {dO:Array Bool} (h:pX ops L dO) {i j:Nat} (hr:i∈Region.ready .any ops dO) (hF:oK ops.toList j i) (hj:j < ops.size):∀x∈L,x.1≠j:=by
 intro x hx e
 obtain ⟨h0,o,ho,xM⟩:=mem_ready.1 hr
 have:=hF (λr=>dO.getD r false=true) (λr o' e hr hS he hb=>h.down r o' e (by simpa using hr) hS he hb)
  (λo' e jn he hb=>by
   have:o'=o:=by
    have h1:ops[i]?=some o':=by simpa using jn
    rw [ho] at h1;simpa using h1.symm
   subst this
   exact xM e (by simpa using he) hb)
 have nt:=(h.list j hj).2 ⟨x,hx,e⟩
 have wC:j < dO.size:=by
  rcases vY j dO.size with h|h
  ·exact h
  ·simp [GZ h] at this
 simp [wC] at this nt
 rw [this] at nt;cases nt
theorem mD.sub {ops:Array Oper} {L L':List (Nat × Oper × Nat)} (W:mD ops s L) (h:L'.Sublist L):mD ops s L' :=
 ⟨λx hx=>W.get x (h.subset hx),λx hx=>W.store x (h.subset hx),λx hx=>W.un x (h.subset hx),W.ji.sublist h⟩
theorem mD.perm {ops:Array Oper} {L L':List (Nat × Oper × Nat)} (W:mD ops s L) (h:L.Perm L'):mD ops s L' :=
 ⟨λx hx=>W.get x (h.mem_iff.2 hx),λx hx=>W.store x (h.mem_iff.2 hx),λx hx=>W.un x (h.mem_iff.2 hx),(h.pairwise_iff (λ{a b} h h1 h2=>(h h2 h1).symm)).1 W.ji⟩
theorem ao6 {ops:List Oper} {l:Nat} {s s':St} (h:Out X ops o l s s') {d:Nat} (ht:s.t[d]?=some .any) (hd:o.dst≠some d):s'.t[d]?=some .any:=by
 obtain ⟨g,x,u,h1,rfl⟩:=Em.1 h
 show (oJ o.dst x (n7 g s.t))[d]?=some .any
 rw [Ox _ _ _ _ (λj hj e=>hd (by rw [hj,e])),TV]
 ·exact ht
 ·intro j v hg e
  subst e
  rcases h1.guard with ⟨_,h2⟩|⟨i,y,v',_,h2,h3,h4⟩
  ·rw [h2] at hg;cases hg
  ·rw [h2] at hg
   simp at hg
   obtain ⟨rfl,rfl⟩:=hg
   rw [ht] at h3
   simp at h3
   subst h3
   simp [nf] at h4
theorem am5 {ops:List Oper} {l:Nat} {s s':St} {e:TypeId} {i:TI} {d:Tmp} (Fl:Float X o e i d) (h:Out X ops o l s s'):s'=⟨s.t.set d (.ptr l 0),s.b.set l (.fix e (i.zero.cells.toList.map l6))⟩:=by
 unfold Out xP at h
 rw [Fl.guard] at h
 obtain ⟨x,u,h1,rfl⟩:=h
 rw [Fl.op] at h1
 simp only [eR,Fl.ti] at h1
 obtain ⟨rfl,rfl⟩:=h1
 simp [St.gn,Fl.dst,m9]
theorem amc (C:X.Ok P) {ops:Array Oper} (O:Ordered ops.toList) {k:St->Prop} {E:List (Nat × Oper × Nat)} (hp:vb X a f E f1):∀{R:List (Nat × Oper × Nat)} {s:St} {η:Nat->Value} {Ks:Tmp->List Nat},Den f1 s η H a w->mD ops s R->rJ ops.toList Ks s ->
  (∀y∈R,wh ops.toList Ks y.2.1 y.2.2)->R.Pairwise (λx y=>x.1 < y.1)->(∀x∈E,x∈R)->E.Pairwise (λx y=>x.1≠y.1)->kO X ops.toList (ol R) s k ->
  ∃(s':St) (η':Nat->Value) (R':List (Nat × Oper × Nat)),Den f s' η' H a w/\mD ops s' R'/\rJ ops.toList Ks s'/\(∀y∈R',wh ops.toList Ks y.2.1 y.2.2)/\R'.Pairwise (λx y=>x.1 < y.1) /\
   (∀y,y∈R'↔y∈R/\∀x∈E,x.1≠y.1)/\kO X ops.toList (ol R') s' k:=by
 induction hp with
 | nil=>intro R s η Ks D W FA hL rP _ _ h;exact ⟨s,η,R,D,W,FA,hL,rP,λy=>by simp,h⟩
 | @cons E f1 x e i d bl hp Fl h0 hF ha ih =>
  intro R s η Ks D W FA hL rP wR FM h
  have yd:=wR x (by simp)
  obtain ⟨A,B,rfl⟩:=GH yd
  have ko:=ow.1 rP
  have jo:=W.get x (by simp)
  have hA:∀p∈A,xL ops.toList p.2.1 x.2.1:=by
   intro p qU
   have oT:=W.get p (by simp [qU])
   rcases O.apart x.1 x.2.1 p.1 p.2.1 (by simpa using jo) (by simpa using oT) (ko.2.2 p qU x (by simp)) with hF|hi
   ·exact absurd hF (SC Fl (by simpa using jo) _)
   ·exact NO hi
  have h2:=Kj C x B A ⟨η,H,a,w,D⟩ FA hL W hA h
  obtain ⟨s1,h3,h4⟩:=uR.1 h2
  have wO:ie x.2.1.op=true:=by rw [Fl.op];rfl
  have D1:=D.restore h0 hF ha (W.un x (by simp) wO)
  have e1:=am5 Fl h3
  rw [<-e1] at D1
  have nH:(A++x :: B).Perm (x :: (A++B)):=JB
  have W':=(W.perm nH).tail h3
  obtain ⟨hEx,as6⟩:=lW.1 FM
  obtain ⟨s',η',R',g1,g2,g3,g4,g5,g6,g7⟩:=ih D1 W' (FA.out (Array.mem_toList_iff.2 (Al jo)) (hL x (by simp)) (λf S h=>(C.sp f S h).lr) h3)
   (λy hy=>hL y (nH.mem_iff.2 (by simp only [eB];exact .inr hy))) (ow.2 ⟨ko.1,(lW.1 ko.2.1).2,λp hp q hq=>ko.2.2 p hp q (by simp [hq])⟩)
   (λy hy=>by
    have:=nH.mem_iff.1 (wR y (by simp [hy]))
    rcases eB.1 this with e2|h5
    ·exact absurd (by rw [e2]) (hEx y hy)
    ·exact h5) as6 h4
  refine ⟨s',η',R',g1,g2,g3,g4,g5,λy=>?_,g7⟩
  rw [g6]
  constructor
  ·rintro ⟨h5,h6⟩
   refine ⟨nH.mem_iff.2 (by simp only [eB];exact .inr h5),λz hz=>?_⟩
   rcases eB.1 hz with rfl|hz
   ·rcases eP.1 h5 with h5|h5
    ·have:=ko.2.2 y h5 z (by simp);omega
    ·have:=(lW.1 ko.2.1).1 y h5;omega
   ·exact h6 z hz
  ·rintro ⟨h5,h6⟩
   refine ⟨?_,λz hz=>h6 z (by simp [hz])⟩
   rcases eB.1 (nH.mem_iff.1 h5) with rfl|h5
   ·exact absurd rfl (h6 y (by simp))
   ·exact h5
theorem anV (C:X.Ok P) {r:Bool} {F:Fence} (RR:RF r F) {ops:Array Oper} (O:Ordered ops.toList) (hs:xA ops.toList=true) {Q:Exit->Act->World->Prop} (hQ:¬LetsOut Q) {k:St->Prop}
  (hk:∀s' η' H' a' w',Den f s' η' H' a' w'->k s'->Q .normal a' w') {E:List (Nat × Oper × Nat)} (hp:vb X a f E f1) {R R':List (Nat × Oper × Nat)} {Ks:Tmp->List Nat} {dO:Array Bool} (D:Den f1 s η H a w) (W:mD ops s R) (FA:rJ ops.toList Ks s)
  (hL:∀y∈R,wh ops.toList Ks y.2.1 y.2.2) (rP:R.Pairwise (λx y=>x.1 < y.1)) (wR:∀x∈E,x∈R) (FM:E.Pairwise (λx y=>x.1≠y.1)) (h:kO X ops.toList (ol R) s k) (zG:∀y,y∈R'↔y∈R/\∀x∈E,x.1≠y.1)
  (Li:pX ops R' dO):wpAnyIn F 0 P .any ops Q R'.length dO a w:=by
 obtain ⟨s',η',R2,D',W',Mb,hL',afB,hm,h'⟩:=amc C O hp D W FA hL rP wR FM h
 have hlen:R2.length=R'.length:=by
  have n1:R2.Nodup:=afB.imp λh e=>by rw [e] at h;omega
  have n2:R'.Nodup:=Li.inc.imp λh e=>by rw [e] at h;omega
  exact ((SZ n1 n2).2 λy=>by rw [hm,zG]).length_eq
 refine adj RR hs hQ _ _ _ _ ?_
 refine adg C O hk _ R2 hlen W' afB (λi hi=>?_) Li.all Li.down Mb hL' D' h'
 rw [Li.list i hi]
 constructor
 ·rintro ⟨y,hy,e⟩;exact ⟨y,(hm y).2 ((zG y).1 hy),e⟩
 ·rintro ⟨y,hy,e⟩;exact ⟨y,(zG y).2 ((hm y).1 hy),e⟩
theorem am6 (C:X.Ok P) (I:pj X) {call:ss} (CO:AD P X call) {r:Bool} {F:Fence} (RR:RF r F) {ops:Array Oper} (O:Ordered ops.toList) {i0:Nat} (B:afA X ops.toList i0) (hs:xA ops.toList=true) {Q:Exit->Act->World->Prop} (hQ:¬LetsOut Q) {k k1:St->Prop}
  (hk:∀s' η' H' a' w',Den f s' η' H' a' w'->k s'->Q .normal a' w') {hh:Nat × Oper × Nat} (iB:hh.1=i0) (yf:ops[hh.1]?=some hh.2.1) {R:List (Nat × Oper × Nat)} (arq:R.Pairwise (λx y=>x.1 < y.1)) (wD:∀y∈R,i0 < y.1)
  (yg:∀y∈R,ops[y.1]?=some y.2.1)
  (eT:∀s2,k1 s2->∃Ks,mD ops s2 R/\rJ ops.toList Ks s2/\(∀y∈R,wh ops.toList Ks y.2.1 y.2.2)/\kO X ops.toList (ol R) s2 k) :
  ∀(n:Nat) (A E R':List (Nat × Oper × Nat)) {dO:Array Bool} {Ks:Tmp->List Nat} {f1:Fr} {s:St} {η:Nat->Value} {H:bO} {a:Act} {w:World},A.length+R'.length+1=n->(∀y∈A,y.1 < i0)->mD ops s A->rJ ops.toList Ks s->(∀y∈A,wh ops.toList Ks y.2.1 y.2.2) ->
   (∀y,y∈R'↔y∈R/\∀x∈E,x.1≠y.1)->(∀x∈E,x∈R)->E.Pairwise (λx y=>x.1≠y.1)->(∀y∈R,xE X y.2.1=true->∀d,y.2.1.dst=some d->s.t[d]?=some .any)->pX ops (A++hh :: R') dO->vb X a f E f1->Den f1 s η H a w ->
   kO X ops.toList (ol A) s (λs1=>Bd X call f.sS hh.2.1 0 s1 k1)->wpAnyIn F 0 P .any ops Q n dO a w:=by
 intro n
 induction n with
 | zero=>intro A E R' _ _ _ _ _ _ _ _ hn;omega
 | succ n ih =>
  intro A E R' dO Ks f1 s η H a w hn E6 W FA hL zG wR FM WA Li hp D h
  have qS:∀y∈A++hh :: R',ops[y.1]?=some y.2.1:=by
   intro y hy
   rcases eP.1 hy with hy|hy
   ·exact W.get y hy
   ·rcases eB.1 hy with rfl|hy
    ·exact yf
    ·exact yg y ((zG y).1 hy).1
  obtain ⟨oc,hoc,hcg,X8,lx,Rh⟩:=B.call
  have Qo:hh.2.1=oc:=by
   have h1:ops.toList[i0]?=some hh.2.1:=by rw [<-iB];simpa using yf
   rw [hoc] at h1;simpa using h1.symm
  have WB:∀y:Nat × Oper × Nat,ops[y.1]?=some y.2.1->(∀x∈E,x.1≠y.1)->∀x∈E,∀d,x.2.1.dst=some d->y.2.1.dst≠some d:=by
   intro y hy cO x hx d hd FN
   have jo:=yg x (wR x hx)
   rcases B.back x.1 x.2.1 (wD x (wR x hx)) (by simpa using jo) with hF|⟨hf,d',mh,eA⟩
   ·obtain ⟨e,i,Ri,Fl⟩:=TZ (X:=X) (o:=x.2.1) (by
     have:∀{E f1},vb X a f E f1->∀x∈E,xE X x.2.1=true:=by
      intro E f1 hp
      induction hp with
      | nil=>intro x hx;cases hx
      | cons _ Fl _ _ _ ih =>
       intro x hx
       rcases eB.1 hx with rfl|hx
       ·unfold xE
        rw [Fl.op]
        simp only [Fl.guard,Fl.dst,Fl.ti,Option.isNone_none,Option.isSome_some,Bool.and_true,JF]
        exact m8.2 λe he=>by rw [Fl.after e he];rfl
       ·exact ih x hx
     exact this hp x hx)
    exact SC Fl (by simpa using jo) _ hF
   ·rw [hd] at mh
    simp at mh
    subst mh
    exact eA y.1 y.2.1 (by simpa using hy) (λe=>cO x hx e.symm) FN
  constructor
  ·intro hr
   cases A with
   | nil =>
    have:=pX.first O Li yf
    rw [hr] at this;cases this
   | cons x A =>
    have:=pX.first O (L:=A++hh :: R') Li (W.get x (by simp))
    rw [hr] at this;cases this
  ·intro i hi
   obtain ⟨h0,o,ho,xM⟩:=mem_ready.1 hi
   have aR:=(ju.1 ho).1
   obtain ⟨x,hx,rfl⟩:=(Li.list i aR).1 h0
   rcases eP.1 hx with X9|yd
   ·
    obtain ⟨A1,A2,rfl⟩:=GH X9
    have jo:=W.get x (by simp)
    have wS:=pX.step (A:=A1) (B:=A2++hh :: R') (by simpa using Li) hi
    have ko:=ow.1 (ow.1 Li.inc).1
    have hA:∀p∈A1,xL ops.toList p.2.1 x.2.1:=by
     intro p qU
     have oT:=W.get p (by simp [qU])
     rcases O.apart x.1 x.2.1 p.1 p.2.1 (by simpa using jo) (by simpa using oT) (ko.2.2 p qU x (by simp)) with hF|sG
     ·exact absurd rfl (Li.zj hi hF (ju.1 oT).1 p (by simp [qU]))
     ·exact NO sG
    have h2:=Kj C x A2 A1 ⟨η,H,a,w,D⟩ FA hL W hA h
    obtain ⟨s1,h3,h4⟩:=uR.1 h2
    have nH:(A1++x :: A2).Perm (x :: (A1++A2)):=JB
    have eV:x.2.1∈ops.toList:=Array.mem_toList_iff.2 (Al jo)
    have Mb:=FA.out eV (hL x (by simp)) (λf S h=>(C.sp f S h).lr) h3
    have W':=(W.perm nH).tail h3
    have ku:x.1 < i0:=E6 x (by simp)
    have Ya:∀y∈R,x.1≠y.1:=λy hy e=>by have:=wD y hy;omega
    have ars:∀y∈R,xE X y.2.1=true->∀d,y.2.1.dst=some d->s1.t[d]?=some .any:=by
     intro y hy hf d hd
     refine ao6 h3 (WA y hy hf d hd) λhxd=>?_
     rcases B.back y.1 y.2.1 (wD y hy) (by simpa using yg y hy) with hF|⟨_,d',mh,eA⟩
     ·obtain ⟨e,i,Ri,Fl⟩:=TZ hf
      exact SC Fl (by simpa using yg y hy) _ hF
     ·rw [hd] at mh
      simp at mh
      subst mh
      exact eA x.1 x.2.1 (by simpa using jo) (Ya y hy) hxd
    have nF:=JI C D jo (λha=>W.un x (by simp) ha) (W.store x (by simp)) h3 (Q:=Q) (K:=λa' w'=>∃η' H',Den f1 s1 η' H' a' w') λη' H' a' w' D'=>⟨η',H',D'⟩
    unfold wpOp at nF
    unfold wpOpIn
    rw [jo] at nF ⊢
    simp only at nF ⊢
    have fin:∀a' w',(∃η' H',Den f1 s1 η' H' a' w')->(∀d,x.2.1.dst≠some d->a'.tmps[d]?=a.tmps[d]?)->wpAnyIn F 0 P .any ops Q n (dO.setIfInBounds x.1 true) a' w':=by
     rintro a' w' ⟨η',H',D'⟩ Ht
     refine ih (A1++A2) E R' (by simp at hn ⊢;omega) (λy hy=>E6 y (nH.mem_iff.2 (by simp only [eB];exact .inr hy))) W' Mb (λy hy=>hL y (nH.mem_iff.2 (by simp only [eB];exact .inr hy))) zG wR FM ars (by simpa using wS)
      (hp.HJ λy hy d hd=>Ht d (WB x jo (λz hz e=>by have:=wD z (wR z hz);omega) y hy d hd)) D' h4
    by_cases hw:Region.wanted x.2.1 (yielded ops a.tmps)=true
    ·rw [if_pos hw] at nF ⊢
     rcases nF with nF|nF
     ·have gI:yP x.2.1.op=false:=by
       have:=m8.1 hs x.2.1 eV
       cases cJ:uY x.2.1.op
       ·rw [cJ] at this;simpa using this
       ·cases fk:x.2.1.op<;>rw [fk] at cJ<;>first|rfl|cases cJ
      exact Oper.wpIn_mono (λa' w' hq=>fin a' w' hq.1 hq.2) (aaL (AO RR gI nF))
     ·exact absurd nF.2 hQ
    ·rw [if_neg hw] at nF ⊢
     exact ⟨λg _=>RR.fn g,fin _ _ nF λd hd=>B6 a x.2.1.dst _ d hd⟩
   ·rcases eB.1 yd with rfl|yd
    ·
     have Be:A=[]:=by
      cases A with
      | nil=>rfl
      | cons y A =>
       exfalso
       have:=B.zj y.1 (E6 y (by simp))
       rw [<-iB] at this
       exact Li.zj hi this (ju.1 (W.get y (by simp))).1 y (by simp) rfl
     subst Be
     have wS:=pX.step (A:=[]) (B:=R') (by simpa using Li) hi
     have h1:Bd X call f.sS x.2.1 0 s k1:=h
     have gI:yP x.2.1.op=false:=by rw [Qo,Rh]
     unfold wpOpIn
     rw [yf]
     simp only
     rw [if_pos (by rw [Qo];simp [Region.wanted,hcg])]
     refine Oper.wpIn_mono (λa' w' hq=>?_) (aaL (Om C I CO RR (s:=s) D (l:=0) (by intro ha;rw [Qo,X8] at ha;cases ha) (by intro ha;rw [Qo,lx] at ha;cases ha) gI (by rw [hp.sS];exact h1) (Q:=Q) (K:=λa' w'=>∃s2 η' H',Den f1 s2 η' H' a' w'/\k1 s2) λs' η' H' a' w' D' jX=>⟨s',η',H',D',jX⟩))
     obtain ⟨⟨s2,η2,H2,D2,lP⟩,Ht⟩:=hq
     obtain ⟨Ks2,W2,Yb,Yc,h2⟩:=eT s2 lP
     have nq:n=R'.length:=by simp at hn;omega
     rw [nq]
     exact anV C RR O hs hQ hk (hp.HJ λy hy d hd=>Ht d (WB x yf (λz hz e=>by have:=wD z (wR z hz);omega) y hy d hd)) D2 W2 Yb Yc arq wR FM h2 zG (by simpa using wS)
    ·
     obtain ⟨Qp,hxE⟩:=(zG x).1 yd
     have jo:=yg x Qp
     have hnF:¬oK ops.toList i0 x.1:=λhF=>Li.zj hi hF (by rw [<-iB];exact (ju.1 yf).1) hh (by simp) iB
     rcases B.back x.1 x.2.1 (wD x Qp) (by simpa using jo) with hF|⟨hf,d,hd,eA⟩
     ·exact absurd hF hnF
     obtain ⟨e,ti,d',Fl⟩:=TZ hf
     have:d'=d:=by have:=Fl.dst;rw [hd] at this;simpa using this.symm
     subst this
     have ht:=WA x Qp hf d' hd
     obtain ⟨R1,R2,rfl⟩:=GH yd
     have wS:=pX.step (A:=A++hh :: R1) (B:=R2) (by simpa using Li) hi
     unfold wpOpIn
     rw [jo]
     simp only
     rw [if_pos (by simp [Region.wanted,Fl.guard])]
     refine D.early C Fl (.inl ht) RR λbl a' w' b1 b2 b3 b4 D'=>?_
     have eb:d' < a.tmps.size:=by
      have h1:a.tmps.toList.length=s.t.length:=j3 D.t
      have h2:d' < s.t.length:=(bW.1 ht).1
      rw [Aq] at h1
      rw [h1];exact h2
     have qU:vb X a' f (x :: E) (f1.CI bl (.cells ti.zero.cells e (0,0))):=.cons (hp.HJ λy hy Ri as7=>b4 Ri λe=>WB x jo hxE y hy Ri as7 (by rw [hd,e])) Fl b1 b2 (b3 eb)
     have aAS:(R1++x :: R2).Nodup:=(lW.1 (ow.1 Li.inc).2.1).2.imp λh e=>by rw [e] at h;omega
     have art:=(lW.1 (ow.1 Li.inc).2.1).2
     have aeq:=ow.1 art
     refine ih A (x :: E) (R1++R2) (by simp at hn ⊢;omega) E6 W FA hL (λy=>?_) (λy hy=>?_) (lW.2 ⟨λy hy e=>hxE y hy e.symm,FM⟩) WA (by simpa using wS) qU D' h
     ·constructor
      ·intro hy
       have FK:y∈R1++x :: R2:=by
        rcases eP.1 hy with h|h
        ·exact B1 _ h
        ·exact D8 _ (An _ h)
       obtain ⟨c1,c2⟩:=(zG y).1 FK
       refine ⟨c1,λz hz=>?_⟩
       rcases eB.1 hz with rfl|hz
       ·rcases eP.1 hy with h|h
        ·have:=aeq.2.2 y h z (by simp);omega
        ·have:=(lW.1 aeq.2.1).1 y h;omega
       ·exact c2 z hz
      ·rintro ⟨c1,c2⟩
       have:=(zG y).2 ⟨c1,λz hz=>c2 z (by simp [hz])⟩
       rcases eP.1 this with h|h
       ·exact B1 _ h
       ·rcases eB.1 h with rfl|h
        ·exact absurd rfl (c2 y (by simp))
        ·exact D8 _ h
     ·rcases eB.1 hy with rfl|hy
      ·exact Qp
      ·exact wR y hy
theorem anW {q:Nat->Live} {t:List SV} {vs:List Value} (h:a9 η q H t vs) (d:Nat):a9 η q H (t.set d .any) vs:=by
 have hl:=j3 h
 by_cases hd:d < vs.length
 ·have h1:=yL h d (x:=.any) (u:=vs[d]) (by simp only [rel])
  have e:vs.set d vs[d]=vs:=by
   refine oy λj=>?_
   rw [ja]
   split
   ·rename_i hj;subst hj;simp [hd]
   ·rfl
  rwa [e] at h1
 ·rw [aaX (by omega)];exact h
theorem TC {q:Nat->Live} {vs:List Value}:∀(ds:List Nat) {t:List SV},a9 η q H t vs->a9 η q H (ng ds t) vs
 | [],_,h=>h
 | d :: r,_,h=>TC r (anW h d)
theorem abk:∀(ds:List Nat) {t:List SV} {d:Nat},t[d]?=some .any->(ng ds t)[d]?=some .any
 | [],_,_,h=>h
 | d' :: r,t,d,h=>by
  rw [ng]
  refine abk r ?_
  rw [ja]
  split
  ·rename_i e;subst e
   have:=(bW.1 h).1
   simp [this]
  ·exact h
theorem T0:∀(ds:List Nat) {t:List SV} {d:Nat},d∈ds->d < t.length->(ng ds t)[d]?=some .any
 | [],_,_,h,_=>by cases h
 | d' :: r,t,d,h,hl=>by
  rw [ng]
  by_cases e:d=d'
  ·subst e
   exact abk r (by rw [o9 hl])
  ·rcases eB.1 h with h|h
   ·exact absurd h e
   ·exact T0 r h (by simpa using hl)
theorem aaM:∀{ops:List Oper} {o:Oper} {d:Nat},o∈ops->xE X o=true->o.dst=some d->d∈Hk X ops
 | [],_,_,h,_,_=>by cases h
 | x :: r,o,d,h,hf,hd=>by
  unfold Hk
  rcases eB.1 h with rfl|h
  ·rw [hf,hd];simp
  ·have:=aaM h hf hd
   split
   ·exact An _ this
   ·exact this
theorem TE:∀{lb:List (Oper × Nat)} {b:List Slot},EL lb b=true->∀x∈lb,ie x.1.op=true->b[x.2]?=some .un
 | [],_,_,x,hx,_=>by cases hx
 | (o,l) :: r,b,h,x,hx,ha=>by
  simp only [EL,eh] at h
  rcases eB.1 hx with rfl|hx
  ·have h1:=h.1
   rw [ha] at h1
   simp only at h1
   split at h1
   ·assumption
   ·cases h1
  ·exact TE h.2 x hx ha
theorem On {ops:List Oper} {n:Nat} (s:St):∀y∈items ops n,wh ops (sZ ops (fA ops n) s) y.2.1 y.2.2:=by
 intro y hy t A ht hn wO hA
 have hm:y.2∈fA ops n:=by rw [<-Av];exact GF hy
 refine Jp hA ?_
 unfold Ex
 refine D8 _ (Ec.2 ⟨y.2,hm,?_⟩)
 rw [Tz.2 ht,hn,wO]
 rfl
theorem amw (C:X.Ok P) (I:pj X) {call:ss} (CO:AD P X call) {r:Bool} {F:Fence} (RR:RF r F) {id:Nat} {ops:Array Oper} (hs:xA ops.toList=true) (hd:J4 ops.toList=true) {i:Nat} (hb:PH X ops.toList i=true) {Q:Exit->Act->World->Prop} {k:St->Prop}
  (hk:∀s' η' H' a' w',Den f s' η' H' a' w'->k s'->Q .normal a' w') (D:Den f s η H a w) (h:Wz X call f.sS ops.toList i s k):(Code.region id ops true).wpIn F 0 P Q a w:=by
 refine wpIn_mono (Q:=wQ (Q .normal)) ?_ (λe a' w' h=>by cases e<;>first|exact h|exact h.elim)
 have hk:∀s' η' H' a' w',Den f s' η' H' a' w'->k s'->wQ (Q .normal) .normal a' w':=hk
 have O:=aab hd
 have B:=amv hb
 unfold Wz at h
 split at h
 ·exact h.elim
 rename_i fk ho
 split at h
 ·exact h.elim
 rename_i HQ
 simp only [eh] at HQ
 obtain ⟨HQ,fV⟩:=HQ
 let n:=s.b.length
 let s0:St:={ Ct X ops.toList i s with b:=s.b++jI (rF ops.toList) }
 have D0:Den f (Ct X ops.toList i s) η H a w:={ D with t:=TC _ D.t }
 have D1:=D0.ext (rF ops.toList)
 have D2:Den f s0 η H a { w with drawn:=w.drawn+1 }:=D1.grown (SB w none)
 have W:mD ops s0 (items ops.toList n):=SP hs (Ct X ops.toList i s)
 have hlen:(items ops.toList n).length=ops.size:=by
  have:=congrArg List.length (vQ ops.toList n)
  simpa using this
 have E7:i < ops.size:=by
  have:=(bW.1 ho).1
  simpa using this
 have gV:items ops.toList n=(items ops.toList n).take i++(items ops.toList n)[i]'(by rw [hlen];exact E7) :: (items ops.toList n).drop (i+1):=by
  rw [aa0,List.take_append_drop]
 have E5:∀(j:Nat) (x:Nat × Oper × Nat),(items ops.toList n)[j]?=some x->x.1=j/\ops[j]?=some x.2.1/\(fA ops.toList n)[j]?=some x.2:=by
  intro j x hx
  have h1:=W.get x (cb hx)
  have h2:((items ops.toList n).map (·.1))[j]?=some x.1:=by rw [m7,hx];rfl
  rw [vQ,Jw (by
   have:=(bW.1 hx).1
   rw [hlen] at this;simpa using this)] at h2
  simp at h2
  have h3:(ol (items ops.toList n))[j]?=some x.2:=by unfold ol;rw [m7,hx];rfl
  rw [Av] at h3
  exact ⟨h2.symm,by rw [h2];exact h1,h3⟩
 have Mc:(items ops.toList n)[i]?=some ((items ops.toList n)[i]'(by rw [hlen];exact E7)):=eo _
 generalize (items ops.toList n)[i]'(by rw [hlen];exact E7)=hh at gV Mc
 obtain ⟨Ix,Rj,_⟩:=E5 i hh Mc
 have Qq:hh.2.1=fk:=by
  have:ops[i]?=some fk:=by simpa using ho
  rw [Rj] at this;simpa using this
 have inc:(items ops.toList n).Pairwise (λx y=>x.1 < y.1):=by
  have h2:((items ops.toList n).map (·.1)).Pairwise (· < ·):=by rw [vQ];exact S6
  rw [yJ] at h2
  exact h2
 have K8:=inc
 rw [gV] at K8
 have HR:=ow.1 K8
 have Yd:ol ((items ops.toList n).take i)=(fA ops.toList n).take i:=by unfold ol;rw [Tp];show (ol (items ops.toList n)).take i=_;rw [Av]
 have Md:ol ((items ops.toList n).drop (i+1))=(fA ops.toList n).drop (i+1):=by unfold ol;rw [List.map_drop];show (ol (items ops.toList n)).drop (i+1)=_;rw [Av]
 have FA:rJ ops.toList (sZ ops.toList (fA ops.toList n) (Ct X ops.toList i s)) s0 :=
  ⟨λt A hA l hl=>by
   have hl:iR (Ct X ops.toList i s) t=some l:=hl
   exact Jp hA (by simp [Ex,hl]),Ol,J5 HQ⟩
 have wD:∀y∈(items ops.toList n).drop (i+1),i < y.1:=λy hy=>by rw [<-Ix];exact (lW.1 HR.2.1).1 y hy
 refine wpIn_region_any C.mixed ?_
 refine am6 C I CO RR O B hs J6 hk (k1:=λs2=>match EL ((fA ops.toList s.b.length).drop (i+1)) s2.b&&CF ops.toList (sZ ops.toList (fA ops.toList s.b.length) s2) ops.toList with
    | true=>kO X ops.toList ((fA ops.toList s.b.length).drop (i+1)) s2 k
    | false=>False) Ix (by rw [Ix];exact Rj) (R:=(items ops.toList n).drop (i+1)) (lW.1 HR.2.1).2 wD
  (λy hy=>W.get y (r9 hy)) (λs2 lP=>?_) ops.size ((items ops.toList n).take i) [] ((items ops.toList n).drop (i+1)) ?_ (λy hy=>by have:=HR.2.2 y hy hh (by simp);omega) (W.sub (N4 _ _)) FA
  (λy hy=>On (Ct X ops.toList i s) y (sQ hy)) (λy=>by simp) (λx hx=>by cases hx) List.Pairwise.nil (λy hy hf d hd=>?_) ⟨?_,?_,?_,?_⟩ .nil D2 ?_
 ·split at lP
  ·rename_i hq
   simp only [eh] at hq
   refine ⟨sZ ops.toList (fA ops.toList n) s2,⟨λx hx=>W.get x (r9 hx),λx hx=>W.store x (r9 hx),λx hx ha=>?_,W.ji.sublist (List.drop_sublist _ _)⟩,
    ⟨λt A hA l hl=>Jp hA (by simp [Ex,hl]),Ol,J5 hq.2⟩,λy hy=>On s2 y (r9 hy),by rw [Md];exact lP⟩
   refine TE hq.1 x.2 ?_ ha
   rw [<-Md]
   exact GF hx
  ·exact lP.elim
 ·simp only [lJ,xx,hlen];omega
 ·obtain ⟨j,hj⟩:=BY.1 hy
  rw [lI] at hj
  obtain ⟨e1,e2,_⟩:=E5 _ _ hj
  have eV:y.2.1∈ops.toList.drop (i+1):=by
   refine cb (i:=j) ?_
   rw [lI]
   simpa using e2
  have Rk:=aaM eV hf hd
  have as8:=m8.1 fV d Rk
  exact T0 _ Rk (G0 as8)
 ·rw [<-gV];exact inc
 ·intro j hj
  rw [<-gV]
  have:(Array.replicate ops.size false).getD j true=false:=by simp [hj]
  simp only [this,true_iff]
  have hm:j∈(items ops.toList n).map (·.1):=by rw [vQ];simpa using hj
  obtain ⟨x,hx,rfl⟩:=lX.1 hm
  exact ⟨x,hx,rfl⟩
 ·intro j
  by_cases hj:j < ops.size
  ·right;left;simp [hj]
  ·right;right;omega
 ·intro j o e ho hl
  exfalso
  by_cases hj:j < ops.size
  ·simp [hj] at hl
  ·simp [hj] at hl
 ·rw [Yd,Qq];exact h
end
def Still {α:Type} (P:Program) (m:Sem α):Prop:=∀w x w',m.run P w=.ok x w'->w'=w
section still
variable {P:Program}
theorem xr {α:Type} (x:α):Still P (pure x:Sem α):=by
 intro w y w' h
 simp only [Sem.run_pure,Result.ok.injEq] at h
 exact h.2.symm
theorem uQ {α β:Type} {m:Sem α} {f:α->Sem β} (h:Still P m) (h':∀x,Still P (f x)):Still P (m >>= f):=by
 intro w x w' e
 rw [Sem.run_bind] at e
 cases hm:m.run P w with
 | ok y w1 =>
  rw [hm] at e
  simp only [Result.andThen] at e
  obtain rfl:=h _ _ _ hm
  exact h' _ _ _ _ e
 | halt x w1=>rw [hm] at e;simp [Result.andThen] at e
theorem Gu {α:Type} (m:String):Still P (stuck m:Sem α):=by
 intro w y w' h;simp at h
theorem aar {α:Type} (m:Unsupported):Still P (unsupported m:Sem α):=by
 intro w y w' h;simp at h
theorem Nz:Still P program:=by
 intro w y w' h;simp at h;exact h.2.symm
theorem aas (r:Nat):Still P (shape r):=by
 intro w y w' h;simp at h;exact h.2.symm
theorem aaN (a:Addr) (m:Mode):Still P (load a m):=by
 intro w y w' h
 rw [run_load] at h
 split at h
 ·simp at h;exact h.2.symm
 ·split at h
  ·simp at h;exact h.2.symm
  ·simp at h
theorem amx (t:TypeId):Still P (typeInfo t):=by
 unfold typeInfo
 refine uQ Nz λp=>?_
 split
 ·exact xr _
 ·exact Gu _
theorem abl (t:TypeId):Still P (underlying t):=by
 unfold underlying
 refine uQ Nz λp=>?_
 split
 ·exact xr _
 ·exact Gu _
theorem amd (t:TypeId):Still P (isAgg t):=by
 unfold isAgg
 refine uQ (abl t) λp=>?_
 split<;>exact xr _
theorem aad (t:TypeId):Still P (sizeOf t):=by
 unfold sizeOf
 exact uQ (amx t) λp=>xr _
theorem aat (a:Addr):∀(n i:Nat) (acc:Array Value),Still P (loadCellsFrom a i n acc)
 | 0,i,acc=>xr _
 | n+1,i,acc=>uQ (aaN _ _) λv=>aat a n (i+1) _
theorem alR (t:TypeId) (a:Addr):Still P (loadVar t a):=by
 unfold loadVar
 refine uQ (amd t) λp=>?_
 split
 ·refine uQ (aad t) λn=>uQ ?_ λx=>xr _
  exact aat a n 0 #[]
 ·exact aaN a _
theorem aaO (v:Value):Still P (Instr.sureAddr v):=by
 unfold Instr.sureAddr
 split
 ·exact xr _
 ·exact Gu _
theorem alX (t:TypeId) (v:Value):Still P (Instr.loadAt t v):=by
 unfold Instr.loadAt
 exact uQ (aaO v) λa=>alR t a
theorem alY (r:Nat):Still P (getObj r):=by
 intro w y w' h
 simp only [getObj,Sem.run] at h
 repeat' split at h
 all_goals first|(simp at h;exact h.2.symm)|simp at h
theorem amy (a:Addr):Still P (noView a):=by
 unfold noView viewAt
 (repeat' first|exact alY _|exact xr _|exact Gu _|exact aar _|exact aas _|exact Nz|refine uQ ?_ λ_=>?_|split)
theorem alZ (a:Addr):Still P (byteOf a):=by
 unfold byteOf
 (repeat' first|exact xr _|exact Gu _|exact aar _|exact aas _|exact Nz|exact amy _|refine uQ ?_ λ_=>?_|split|dsimp only)
theorem ame (a:Addr) (f:Field):Still P (fieldPlace a f):=by
 unfold fieldPlace partAt
 (repeat' first|exact xr _|exact aad _|exact alZ _|refine uQ ?_ λ_=>?_|split)
theorem alS (t:TypeId) (v:Value) (j:Nat):Still P (Instr.fieldAt t v j):=by
 unfold Instr.fieldAt
 (repeat' first|exact xr _|exact Gu _|exact abl _|exact aaO _|exact ame _ _|refine uQ ?_ λ_=>?_|split)
end still
def so (o:Oper):Bool:=o.guard.isNone&&(o.dst.isSome&&match o.op with
 | .move _|.nilCheck _|.fieldAddr ..|.load ..=>true
 | _=>false)
section
variable {P:Program} {X:Ctx} {f f1:Fr} {s:St} {η:Nat->Value} {H:bO} {a a':Act} {w:World} {o:Oper}
theorem anX (C:X.Ok P) (D:Den f s η H a w) (hl:so o=true) {ops:List Oper} {l:Nat} {s1:St} (h:Out X ops o l s s1):∃u η' H',Den f s1 η' H' (a.put o.dst u) w:=by
 unfold so at hl
 simp only [eh,S1] at hl
 obtain ⟨hg,hd,fk⟩:=hl
 unfold Out xP at h
 rw [hg] at h
 obtain ⟨x,u,ho,e⟩:=h
 have hk:=(eU.PC (eR X s l o.op) (λx' u'=>x'=x/\u'=u)).2 ⟨x,u,ho,rfl,rfl⟩
 have hna:ie o.op=true->s.b[l]?=some .un:=by
  intro ha
  cases pC:o.op<;>rw [pC] at fk ha<;>first|(cases fk;done)|(simp [ie] at ha;done)
 have L4:uY o.op=true->o.dst=none:=by
  intro ha
  cases pC:o.op<;>rw [pC] at fk ha<;>first|(cases fk;done)|(simp [uY] at ha;done)
 obtain ⟨x',u',⟨rfl,rfl⟩,L6⟩:=Tx (R:=λx' u'=>x'=x/\u'=u) C D (l:=l) hna L4 hk
 have hw:=L6 (λa' w'=>∃η' H',Den f s1 η' H' a' w') (λ_ _ _=>False) (λη' H' w' v D'=>⟨η',H',by rw [e];exact D'⟩)
 have ap2:∀z w',(execOp a.eval o).run P w=.ok z w'->w'=w/\∃v,z=.value v:=by
  intro z w' hz
  have fin:∀m:Sem Value,Still P m->(do pure (.value (<-m)):Sem Next).run P w=.ok z w'->w'=w/\∃v,z=.value v:=by
   intro m hm hz
   rw [Sem.run_bind] at hz
   cases hr:m.run P w with
   | ok y w1 =>
    rw [hr] at hz
    simp only [Result.andThen,Sem.run_pure,Result.ok.injEq] at hz
    exact ⟨by rw [<-hz.2];exact hm _ _ _ hr,y,hz.1.symm⟩
   | halt y w1=>rw [hr] at hz;simp [Result.andThen] at hz
  cases pC:o.op<;>rw [pC] at fk<;>try (cases fk;done)
  case move x =>
   simp only [execOp,pC,Sem.run_pure,Result.ok.injEq] at hz
   exact ⟨hz.2.symm,_,hz.1.symm⟩
  case load t x =>
   simp only [execOp,pC] at hz
   exact fin _ (alX _ _) hz
  case fieldAddr t x j =>
   simp only [execOp,pC] at hz
   exact fin _ (alS _ _ _) hz
  case nilCheck x =>
   rw [pC] at hk
   simp only [eR] at hk
   have hx:=D.ev x
   have pt:(∃ad,a.eval x=.pointer (some ad))\/∃g fs cs,a.eval x=.func (.func g) fs cs:=by
    split at hk<;>first|exact hk.elim|skip
    ·rename_i l off e
     rw [e] at hx
     left
     simp only [rel] at hx
     split at hx
     ·exact hx.elim
     ·exact hx
     ·obtain ⟨bl,_,h⟩:=hx;exact ⟨_,h⟩
    ·rename_i cs off e
     rw [e] at hx
     left
     simp only [rel] at hx
     obtain ⟨ad,h,_⟩:=hx;exact ⟨_,h⟩
    ·rename_i g fs cs e
     rw [e] at hx
     right
     simp only [rel] at hx
     obtain ⟨us,vs,h,_⟩:=hx
     exact ⟨_,_,_,h⟩
   rcases pt with ⟨ad,hp⟩|⟨g,fs,cs,hp⟩
   ·simp only [execOp,pC,hp,Sem.run_pure,Result.ok.injEq] at hz
    exact ⟨hz.2.symm,_,hz.1.symm⟩
   ·simp only [execOp,pC,hp,Sem.run_pure,Result.ok.injEq] at hz
    exact ⟨hz.2.symm,_,hz.1.symm⟩
 unfold Oper.wp at hw
 cases hz:(execOp a.eval o).run P w with
 | ok z w' =>
  obtain ⟨rfl,v,rfl⟩:=ap2 z w' hz
  rw [hz] at hw
  obtain ⟨η',H',D'⟩:=hw
  exact ⟨v,η',H',D'⟩
 | halt z w'=>rw [hz] at hw;cases z<;>simp only [Oper.upon] at hw
theorem NR (hl:so o=true):ie o.op=false:=by
 unfold so at hl
 simp only [eh] at hl
 obtain ⟨_,_,fk⟩:=hl
 cases pC:o.op<;>rw [pC] at fk<;>first|(cases fk;done)|rfl
theorem anY (hl:so o=true) (s:St) (l:Nat):eR X s l o.op=eR X s 0 o.op:=by
 unfold so at hl
 simp only [eh] at hl
 obtain ⟨_,_,fk⟩:=hl
 cases pC:o.op<;>rw [pC] at fk<;>first|(cases fk;done)|rfl
theorem acj (hl:so o=true):∃d,o.dst=some d:=by
 unfold so at hl
 simp only [eh] at hl
 exact uT.1 hl.2.1
theorem amz (hl:so o=true):o.guard=none:=by
 unfold so at hl
 simp only [eh,S1] at hl
 exact hl.1
structure yQ (ds:List Tmp) (a b:Act):Prop where
 d:a.defers=b.defers
 z:a.tmps.size=b.tmps.size
 t:∀d,d∉ds->a.tmps[d]?=b.tmps[d]?
theorem yQ.put {ds:List Tmp} {a b:Act} (h:yQ ds a b) (dst:Option Tmp) (v:Value):yQ ds (a.put dst v) (b.put dst v):=by
 cases dst with
 | none=>exact h
 | some d =>
  refine ⟨h.d,by simp [Act.put,h.z],λd' mh=>?_⟩
  simp only [Act.put,Array.getElem?_setIfInBounds]
  rw [h.t d' mh,h.z]
theorem yQ.ev {ds:List Tmp} {a b:Act} (h:yQ ds a b) {x:Operand} (hx:∀t,x=.tmp t->t∉ds):a.eval x=b.eval x:=by
 cases x with
 | tmp t =>
  have:=h.t t (hx t rfl)
  simp only [Act.eval,JM,this]
 | _=>rfl
theorem am7 {r:Bool} {F:Fence} (R:RF r F) {ds:List Tmp} {a b:Act} (hs:yQ ds a b) {c:Call} {g:FuncId} (ho:o.op=.call c) (hc:c.callee=.value (.func g)) (hd:∀t∈lY o.op,t∉ds)
  {K K':Act->World->Prop} {Q:Exit->Act->World->Prop} (hQ:∀e a w,e≠.normal->¬Q e a w) (hQ':¬LetsOut Q) (hK:∀a1 b1 w',yQ ds a1 b1->K b1 w'->K' a1 w') (h:o.wpIn F 0 P b w K Q):o.wpIn F 0 P a w K' Q:=by
 have Iy:c.args.map a.eval=c.args.map b.eval:=Array.map_congr_left λx hx=>hs.ev λt ht=>hd t (by
  subst ht
  rw [ho]
  exact Ec.2 ⟨.tmp t,by simpa [Op.operands] using NI (Array.mem_toList_iff.2 hx),rfl⟩)
 have jf:resolve a.eval c o.type=resolve b.eval c o.type:=by
  unfold resolve
  rw [hc,Iy]
  rfl
 have hex:o.semAt F.round a.eval=o.semAt F.round b.eval:=by
  rw [Oper.semAt_eq _ _ _ (λc' e=>by rw [ho] at e;cases e),Oper.semAt_eq _ _ _ (λc' e=>by rw [ho] at e;cases e)]
  unfold execOp
  rw [ho]
  simp only [jf]
 refine ⟨λf _=>R.fn f,?_⟩
 have h2:=h.2
 rw [hex]
 generalize (o.semAt F.round b.eval).run P w=z at *
 cases z with
 | ok x w' =>
  cases x<;>simp only [Oper.uponIn] at h2 ⊢
  case value v=>exact hK _ _ _ (hs.put _ _) h2
  case skip=>exact hK _ _ _ (hs.put _ _) h2
  case defer dd=>exact hK _ _ _ (yQ.put (a:={ a with defers:=dd :: a.defers }) (b:={ b with defers:=dd :: b.defers }) ⟨by simp [hs.d],hs.z,hs.t⟩ _ _) h2
  case enter=>exact ⟨h2.1,CallsIn.mono h2.2 λe Ma he=>by cases e<;>first|exact hK _ _ _ (hs.put _ _) he|exact absurd he (hQ _ _ _ (by simp))|exact he⟩
  case row=>exact ⟨h2.1,RowsIn.mono h2.2 λv Ma he=>hK _ _ _ (hs.put _ _) he⟩
  case round=>exact ⟨h2.1,RoundIn.mono h2.2 λe Ma he=>by cases e<;>first|exact hK _ _ _ (hs.put _ _) he|exact absurd he (hQ _ _ _ (by simp))|exact he⟩
  all_goals exact h2
 | halt x w'=>cases x<;>simp only [Oper.uponIn] at h2 ⊢<;>first|exact h2|exact absurd h2 (hQ _ _ _ (by simp))
theorem ack {q:Nat->Live}:∀{t:List SV} {vs sE:List Value},a9 η q H t vs->vs.length=sE.length->(∀d:Nat,t[d]?=some .any\/vs[d]?=sE[d]?)->a9 η q H t sE
 | [],vs,sE,h,hl,_=>by
  simp only [a9] at h ⊢
  subst h
  cases sE with
  | nil=>rfl
  | cons=>simp at hl
 | x :: r,vs,sE,h,hl,hd=>by
  simp only [a9] at h ⊢
  obtain ⟨v,vs1,rfl,h1,h2⟩:=h
  cases sE with
  | nil=>simp at hl
  | cons v' as9 =>
   refine ⟨v',as9,rfl,?_,ack h2 (by simpa using hl) λd=>by simpa using hd (d+1)⟩
   rcases hd 0 with h|h
   ·simp at h;subst h;simp only [rel]
   ·simp at h;subst h;exact h1
theorem adk:∀(ds:List Nat) {t:List SV} {d:Nat},d∉ds->(ng ds t)[d]?=t[d]?
 | [],_,_,_=>rfl
 | d' :: r,t,d,h=>by
  rw [ng,adk r (λh'=>h (by simp [h'])),fb (λe=>h (by simp [e]))]
theorem adl:∀(ds:List Nat) {t:List SV} {d:Nat},(ng ds t)[d]?=some .any\/(ng ds t)[d]?=t[d]?
 | [],_,_=>.inr rfl
 | d' :: r,t,d=>by
  rw [ng]
  rcases adl r (t:=t.set d' .any) (d:=d) with h|h
  ·exact .inl h
  ·rw [h,ja]
   split
   ·split
    ·exact .inl rfl
    ·right;rename_i e hn;subst e;simp at hn ⊢;exact hn
   ·exact .inr rfl
theorem acm:∀(ds:List Nat) {t:List SV} {d:Nat} {v:SV},d∉ds->(ng ds t).set d v=ng ds (t.set d v)
 | [],_,_,_,_=>rfl
 | d' :: r,t,d,v,h=>by
  rw [ng,ng,acm r (λh'=>h (by simp [h'])),To _ _ (λe=>h (by simp [e]))]
theorem Den.but {ds:List Tmp} {a b:Act} (D:Den f s η H b w) (h:yQ ds a b):Den f ⟨ng ds s.t,s.b⟩ η H a w:={ D with
 t:=by
  have h1:=TC ds D.t
  refine ack h1 (by simp [h.z]) λd=>?_
  by_cases hd:d∈ds
  ·by_cases hl:d < s.t.length
   ·exact .inl (T0 ds hd hl)
   ·right
    have h2:b.tmps.size=s.t.length:=by have:=j3 D.t;simpa using this
    rw [nW (by simp [h2];omega),nW (by simp [h.z,h2];omega)]
  ·right
   have:=h.t d hd
   simpa using this.symm
 d:=by rw [h.d];exact D.d }
def rQ:List (Nat × Oper × Nat)->List Tmp
 | []=>[]
 | x :: r=>match x.2.1.dst with
  | some d=>d :: rQ r
  | none=>rQ r
theorem JY:∀{L:List (Nat × Oper × Nat)} {d:Tmp},d∈rQ L↔∃x∈L,x.2.1.dst=some d
 | [],d=>by simp [rQ]
 | x :: r,d=>by
  unfold rQ
  split
  ·rename_i d' mh
   rw [eB,JY]
   constructor
   ·rintro (rfl|⟨y,hy,h⟩)
    ·exact ⟨x,by simp,mh⟩
    ·exact ⟨y,by simp [hy],h⟩
   ·rintro ⟨y,hy,h⟩
    rcases eB.1 hy with rfl|hy
    ·rw [mh] at h;simp at h;exact .inl h.symm
    ·exact .inr ⟨y,hy,h⟩
  ·rename_i mh
   rw [JY]
   constructor
   ·rintro ⟨y,hy,h⟩;exact ⟨y,by simp [hy],h⟩
   ·rintro ⟨y,hy,h⟩
    rcases eB.1 hy with rfl|hy
    ·rw [mh] at h;cases h
    ·exact ⟨y,hy,h⟩
def K9 (X:Ctx) (s:St) (o:Oper):Prop:=match o.dst with
 | some d=>match eR X s 0 o.op with
  | .pure v []=>s.t[d]?=some v
  | _=>False
 | none=>False
def PJ (X:Ctx):List Oper->St->Prop
 | [],_=>True
 | o :: r,s=>K9 X s o/\PJ X r s
theorem abm:∀{os:List Oper} {s:St},PJ X os s->∀o∈os,K9 X s o
 | [],_,_,o,h=>by cases h
 | x :: r,s,h,o,ho=>by
  rcases eB.1 ho with rfl|ho
  ·exact h.1
  ·exact abm h.2 o ho
theorem acn (C:X.Ok P) {ops:Array Oper} {k:St->Prop}:∀(A:List (Nat × Oper × Nat)) {s:St} {η:Nat->Value} {H:bO} {a:Act},(∀x∈A,so x.2.1=true)->Den f s η H a w->kO X ops.toList (ol A) s k ->
  ∃s1 a1 η1 H1,Den f s1 η1 H1 a1 w/\k s1/\yQ (rQ A) a a1
 | [],s,η,H,a,_,D,h=>⟨s,a,η,H,D,h,⟨rfl,rfl,λ_ _=>rfl⟩⟩
 | x :: A,s,η,H,a,hl,D,h=>by
  obtain ⟨s1,h1,h2⟩:=uR.1 h
  obtain ⟨u,η1,H1,D1⟩:=anX C D (hl x (by simp)) h1
  obtain ⟨s2,a2,η2,H2,D2,hk,hs⟩:=acn C A (λy hy=>hl y (by simp [hy])) D1 h2
  refine ⟨s2,a2,η2,H2,D2,hk,?_⟩
  obtain ⟨d,hd⟩:=acj (hl x (by simp))
  have pA:rQ (x :: A)=d :: rQ A:=by simp only [rQ,hd]
  rw [hd] at hs
  refine ⟨by rw [<-hs.d];rfl,by rw [<-hs.z];simp [Act.put],λt ht=>?_⟩
  rw [pA] at ht
  rw [<-hs.t t (λh=>ht (by simp [h]))]
  simp only [Act.put]
  rw [SX (λe=>ht (by simp [e]))]
theorem aau {ops:List Oper} {k:St->Prop}:∀(L1:List (Oper × Nat)) {L2:List (Oper × Nat)} {s:St},kO X ops L1 s (λs1=>kO X ops L2 s1 k)->kO X ops (L1++L2) s k
 | [],_,_,h=>h
 | x :: L1,L2,s,h=>by
  obtain ⟨s1,h1,h2⟩:=uR.1 h
  exact uR.2 ⟨s1,h1,aau L1 h2⟩
theorem aaP {ops:List Oper} {k:St->Prop} {s:St}:∀(A:List (Nat × Oper × Nat)),(∀x∈A,so x.2.1=true/\K9 X s x.2.1)->(∀x∈A,∀d,x.2.1.dst=some d->d∉lY x.2.1.op) ->
  A.Pairwise (λx y=>∀d,y.2.1.dst=some d->d∉lY x.2.1.op/\x.2.1.dst≠some d)->k s->kO X ops (ol A) ⟨ng (rQ A) s.t,s.b⟩ k
 | [],_,_,_,h=>h
 | x :: A,hl,EM,hp,h=>by
  rw [lW] at hp
  obtain ⟨qa,cJ⟩:=hl x (by simp)
  obtain ⟨d,hd⟩:=acj qa
  have pA:rQ (x :: A)=d :: rQ A:=by simp only [rQ,hd]
  have gI:d∉rQ A:=λhm=>by
   obtain ⟨y,hy,FN⟩:=JY.1 hm
   exact (hp.1 y hy d FN).2 hd
  unfold K9 at cJ
  rw [hd] at cJ
  simp only at cJ
  split at cJ<;>try exact cJ.elim
  rename_i v hv
  rw [pA]
  refine uR.2 ⟨⟨ng (rQ A) s.t,s.b⟩,?_,aaP A (λy hy=>hl y (by simp [hy])) (λy hy=>EM y (by simp [hy])) hp.2 h⟩
  unfold Out xP
  rw [amz qa]
  refine ⟨v,[],?_,?_⟩
  ·rw [anY qa,Z7 X (s:=⟨ng (d :: rQ A) s.t,s.b⟩) (s':=s) 0 x.2.1.op (λt ht=>?_) rfl,hv]
   ·exact ⟨rfl,rfl⟩
   ·refine adk _ λhm=>?_
    rcases eB.1 hm with rfl|hm
    ·exact EM x (by simp) _ hd ht
    ·obtain ⟨y,hy,FN⟩:=JY.1 hm
     exact (hp.1 y hy t FN).1 ht
  ·unfold St.gn
   rw [hd]
   simp only [m9]
   rw [ng,acm _ gI,Oe,Ow _ _ _ cJ]
def G8 (ops:List Oper) (i:Nat):List Oper:=((ops.take i).zipIdx.filter λp=>!((Cs ops []).getD i 0).testBit p.2).map (·.1)
def aer (ops:List Oper) (h p:Oper) (j:Nat):Bool:=so p&&match p.dst with
 | some d=>!(lY h.op).contains d&&(!(lY p.op).contains d&&(ops.take j).all λq=>!(lY q.op).contains d&&q.dst != some d)
 | none=>false
def Pe (ops:List Oper) (i:Nat):Bool:=match ops[i]? with
 | some h=>h.guard.isNone&&((match h.op with
  | .call c=>match c.callee with
   | .value (.func _)=>true
   | _=>false
  | _=>false)&&(((ops.take i).zipIdx.all λp=>((Cs ops []).getD i 0).testBit p.2||aer ops h p.1 p.2) &&
   ((ops.drop (i+1)).zipIdx.all λp=>((Cs ops []).getD (i+1+p.2) 0).testBit i)))
 | none=>false
structure agZ (ops:List Oper) (i:Nat) (h:Oper):Prop where
 at_:ops[i]?=some h
 guard:h.guard=none
 call:∃c g,h.op=.call c/\c.callee=.value (.func g)
 zj:∀j p,j < i->ops[j]?=some p->oK ops j i\/(so p=true/\p∈G8 ops i/\∀d,p.dst=some d->d∉lY h.op/\d∉lY p.op/\∀j' q,j' < j->ops[j']?=some q->d∉lY q.op/\q.dst≠some d)
 back:∀j o,i < j->ops[j]?=some o->oK ops i j
theorem amf {ops:List Oper} {i:Nat} (h:Pe ops i=true):∃o,agZ ops i o:=by
 have hm:=SQ ops ops [] [] rfl rfl (λi j h=>by simp at h)
 unfold Pe at h
 split at h
 ·rename_i o ho
  simp only [eh,S1] at h
  obtain ⟨h1,h2,h3,h4⟩:=h
  refine ⟨o,ho,h1,?_,λj p hj hp=>?_,λj q hj hq=>?_⟩
  ·split at h2
   ·rename_i c hc
    split at h2
    ·rename_i g hg;exact ⟨c,g,hc,hg⟩
    ·cases h2
   ·cases h2
  ·have eV:(p,j)∈(ops.take i).zipIdx:=by
    rw [GW,NX hj]
    exact hp
   have:=m8.1 h3 (p,j) eV
   simp only [vU] at this
   cases hb:((Cs ops []).getD i 0).testBit j with
   | true=>exact .inl (hm i j hb)
   | false =>
    right
    rcases this with h|h
    ·rw [hb] at h;cases h
    unfold aer at h
    simp only [eh] at h
    refine ⟨h.1,?_,λd hd=>?_⟩
    ·unfold G8
     exact lX.2 ⟨(p,j),xy.2 ⟨eV,by simp only [hb];rfl⟩,rfl⟩
    ·have h5:=h.2
     rw [hd] at h5
     simp only [eh] at h5
     refine ⟨by simpa using h5.1,by simpa using h5.2.1,λj' q FL hq=>?_⟩
     have h6:=m8.1 h5.2.2 q (by
      refine cb (i:=j') ?_
      rw [NX FL];exact hq)
     simp only [eh] at h6
     exact ⟨by simpa using h6.1,by simpa using h6.2⟩
  ·have eV:(q,j - (i+1))∈(ops.drop (i+1)).zipIdx:=by
    rw [GW,lI,show i+1+(j - (i+1))=j by omega]
    exact hq
   have:=m8.1 h4 _ eV
   simp only at this
   rw [show i+1+(j - (i+1))=j by omega] at this
   exact hm j i this
 ·cases h
def Vx (X:Ctx) (call:ss) (S:List SV) (ops:List Oper) (i:Nat) (s:St) (k:St->Prop):Prop:=match ops[i]? with
 | none=>False
 | some h=>match aft ops s with
  | false=>False
  | true=>kO X ops ((fA ops s.b.length).take i) { s with b:=s.b++jI (rF ops) } λs1 =>
   Bd X call S h 0 s1 λs2=>match EL ((fA ops s.b.length).drop (i+1)) s2.b&&CF ops (sZ ops (fA ops s.b.length) s2) ops with
    | true=>PJ X (G8 ops i) s2/\kO X ops ((fA ops s.b.length).drop (i+1)) s2 k
    | false=>False
section
variable {P:Program} {X:Ctx} {f f1:Fr} {s:St} {η:Nat->Value} {H:bO} {a a':Act} {w:World} {o:Oper}
theorem anZ {ds:List Nat} {s:St} {t:Tmp} {l:Nat} (h:iR ⟨ng ds s.t,s.b⟩ t=some l):iR s t=some l:=by
 unfold iR at h ⊢
 rcases adl ds (t:=s.t) (d:=t) with h1|h1
 ·simp only [h1,pe] at h
  cases h
 ·simpa only [h1] using h
theorem amA (C:X.Ok P) (I:pj X) {call:ss} (CO:AD P X call) {r:Bool} {F:Fence} (RR:RF r F) {ops:Array Oper} (O:Ordered ops.toList) {hh:Nat × Oper × Nat} (B:agZ ops.toList hh.1 hh.2.1) (hs:xA ops.toList=true) {Q0:Act->World->Prop} {k k1:St->Prop}
  (hk:∀s' η' H' a' w',Den f s' η' H' a' w'->k s'->wQ Q0 .normal a' w') {R:List (Nat × Oper × Nat)} (wD:∀y∈R,hh.1 < y.1) (yg:∀y∈R,ops[y.1]?=some y.2.1)
  (eT:∀s2,k1 s2->∃Ks,mD ops s2 R/\(∀ds,rJ ops.toList Ks ⟨ng ds s2.t,s2.b⟩)/\(∀y:Nat × Oper × Nat,ops[y.1]?=some y.2.1->so y.2.1=true->wh ops.toList Ks y.2.1 y.2.2)/\(∀y∈R,wh ops.toList Ks y.2.1 y.2.2)/\(∀q∈G8 ops.toList hh.1,K9 X s2 q)/\kO X ops.toList (ol R) s2 k) :
  ∀(n:Nat) (A:List (Nat × Oper × Nat)) {dO:Array Bool} {Ks:Tmp->List Nat} {s:St} {η:Nat->Value} {H:bO} {a:Act} {w:World},A.length+R.length+1=n->(∀y∈A,y.1 < hh.1)->mD ops s A->rJ ops.toList Ks s->(∀y∈A,wh ops.toList Ks y.2.1 y.2.2) ->
   pX ops (A++hh :: R) dO->Den f s η H a w->kO X ops.toList (ol A) s (λs1=>Bd X call f.sS hh.2.1 0 s1 k1)->wpAnyIn F 0 P .any ops (wQ Q0) n dO a w:=by
 intro n
 induction n with
 | zero=>intro A _ _ _ _ _ _ _ hn;omega
 | succ n ih =>
  intro A dO Ks s η H a w hn E6 W FA hL Li D h
  have yf:ops[hh.1]?=some hh.2.1:=by simpa using B.at_
  have qS:∀y∈A++hh :: R,ops[y.1]?=some y.2.1:=by
   intro y hy
   rcases eP.1 hy with hy|hy
   ·exact W.get y hy
   ·rcases eB.1 hy with rfl|hy
    ·exact yf
    ·exact yg y hy
  constructor
  ·intro hr
   cases A with
   | nil =>
    have:=pX.first O Li yf
    rw [hr] at this;cases this
   | cons x A =>
    have:=pX.first O (L:=A++hh :: R) Li (W.get x (by simp))
    rw [hr] at this;cases this
  ·intro i hi
   obtain ⟨h0,o,ho,xM⟩:=mem_ready.1 hi
   have aR:=(ju.1 ho).1
   obtain ⟨x,hx,rfl⟩:=(Li.list i aR).1 h0
   rcases eP.1 hx with X9|yd
   ·
    obtain ⟨A1,A2,rfl⟩:=GH X9
    have jo:=W.get x (by simp)
    have wS:=pX.step (A:=A1) (B:=A2++hh :: R) (by simpa using Li) hi
    have ko:=ow.1 (ow.1 Li.inc).1
    have hA:∀p∈A1,xL ops.toList p.2.1 x.2.1:=by
     intro p qU
     have oT:=W.get p (by simp [qU])
     rcases O.apart x.1 x.2.1 p.1 p.2.1 (by simpa using jo) (by simpa using oT) (ko.2.2 p qU x (by simp)) with hF|sG
     ·exact absurd rfl (Li.zj hi hF (ju.1 oT).1 p (by simp [qU]))
     ·exact NO sG
    have h2:=Kj C x A2 A1 ⟨η,H,a,w,D⟩ FA hL W hA h
    obtain ⟨s1,h3,h4⟩:=uR.1 h2
    have nH:(A1++x :: A2).Perm (x :: (A1++A2)):=JB
    have eV:x.2.1∈ops.toList:=Array.mem_toList_iff.2 (Al jo)
    have Mb:=FA.out eV (hL x (by simp)) (λf S h=>(C.sp f S h).lr) h3
    have W':=(W.perm nH).tail h3
    have nF:=JI C D jo (λha=>W.un x (by simp) ha) (W.store x (by simp)) h3 (Q:=wQ Q0) (K:=λa' w'=>∃η' H',Den f s1 η' H' a' w') λη' H' a' w' D'=>⟨η',H',D'⟩
    unfold wpOp at nF
    unfold wpOpIn
    rw [jo] at nF ⊢
    simp only at nF ⊢
    have fin:∀a' w',(∃η' H',Den f s1 η' H' a' w')->wpAnyIn F 0 P .any ops (wQ Q0) n (dO.setIfInBounds x.1 true) a' w':=by
     intro a' w' ⟨η',H',D'⟩
     exact ih (A1++A2) (by simp at hn ⊢;omega) (λy hy=>E6 y (nH.mem_iff.2 (by simp only [eB];exact .inr hy))) W' Mb (λy hy=>hL y (nH.mem_iff.2 (by simp only [eB];exact .inr hy))) (by simpa using wS) D' h4
    by_cases hw:Region.wanted x.2.1 (yielded ops a.tmps)=true
    ·rw [if_pos hw] at nF ⊢
     rcases nF with nF|nF
     ·have gI:yP x.2.1.op=false:=by
       have:=m8.1 hs x.2.1 eV
       cases cJ:uY x.2.1.op
       ·rw [cJ] at this;simpa using this
       ·cases fk:x.2.1.op<;>rw [fk] at cJ<;>first|rfl|cases cJ
      exact Oper.wpIn_mono (λa' w' hq=>fin a' w' hq) (AO RR gI nF)
     ·exact absurd nF.2 J6
    ·rw [if_neg hw] at nF ⊢
     exact ⟨λg _=>RR.fn g,fin _ _ nF⟩
   ·rcases eB.1 yd with rfl|yd
    ·
     have y6:∀y∈A,so y.2.1=true/\y.2.1∈G8 ops.toList x.1/\∀d,y.2.1.dst=some d->d∉lY x.2.1.op/\d∉lY y.2.1.op/\∀j' q,j' < y.1->ops.toList[j']?=some q->d∉lY q.op/\q.dst≠some d:=by
      intro y hy
      rcases B.zj y.1 y.2.1 (E6 y hy) (by simpa using W.get y hy) with hF|h
      ·exact absurd rfl (Li.zj hi hF (ju.1 (W.get y hy)).1 y (by simp [hy]))
      ·exact h
     obtain ⟨s1,a1,η1,H1,D1,h1,wj⟩:=acn C A (λy hy=>(y6 y hy).1) D h
     obtain ⟨c,g,Qr,uy⟩:=B.call
     have X8:ie x.2.1.op=false:=by
      rw [Qr]
      cases c
      simp only at uy
      subst uy
      rfl
     have lx:uY x.2.1.op=false:=by rw [Qr];rfl
     have gI:yP x.2.1.op=false:=by rw [Qr];rfl
     have wS:=pX.step (A:=A) (B:=R) Li hi
     unfold wpOpIn
     rw [yf]
     simp only
     rw [if_pos (by simp [Region.wanted,B.guard])]
     refine am7 RR wj Qr uy (λt ht hm=>?_) (K:=λa' w'=>∃s2 η' H',Den f s2 η' H' a' w'/\k1 s2) (λe a w he h=>by cases e<;>first|exact absurd rfl he|exact h) J6 (λa2 b2 w' j7 hb=>?_)
      (Om C I CO RR (s:=s1) D1 (l:=0) (by intro ha;rw [X8] at ha;cases ha) (by intro ha;rw [lx] at ha;cases ha) gI h1 (Q:=wQ Q0) (K:=λa' w'=>∃s2 η' H',Den f s2 η' H' a' w'/\k1 s2) λs' η' H' a' w' D' jX=>⟨s',η',H',D',jX⟩)
     ·obtain ⟨y,hy,FN⟩:=JY.1 hm
      exact ((y6 y hy).2.2 t FN).1 ht
     obtain ⟨s2,η2,H2,D2,lP⟩:=hb
     obtain ⟨Ks2,W2,Yb,hL1,Yc,cJ,h2⟩:=eT s2 lP
     have D3:=D2.but j7
     have afC:=(ow.1 Li.inc).1
     have hag:=aaP (X:=X) (ops:=ops.toList) (k:=λs3=>kO X ops.toList (ol R) s3 k) (s:=s2) A (λy hy=>⟨(y6 y hy).1,cJ _ (y6 y hy).2.1⟩) (λy hy d hd=>((y6 y hy).2.2 d hd).2.1)
      (afC.imp_of_mem λ{p q} hp hq aR d hd=>((y6 q hq).2.2 d hd).2.2 p.1 p.2.1 aR (by simpa using W.get p hp)) h2
     have ata:kO X ops.toList (ol (A++R)) ⟨ng (rQ A) s2.t,s2.b⟩ k:=by
      have:=aau (ol A) hag
      unfold ol at this ⊢
      rwa [List.map_append]
     refine adj RR hs J6 _ _ _ _ ?_
     refine adg C O hk n (A++R) (by simp at hn ⊢;omega) ⟨λy hy=>?_,λy hy=>?_,λy hy ha=>?_,?_⟩ wS.inc wS.list wS.all wS.down (Yb _) (λy hy=>?_) D3 ata
     ·rcases eP.1 hy with hy|hy
      ·exact W.get y hy
      ·exact yg y hy
     ·rcases eP.1 hy with hy|hy
      ·exact W.store y hy
      ·exact W2.store y hy
     ·rcases eP.1 hy with hy|hy
      ·rw [NR (y6 y hy).1] at ha;cases ha
      ·exact W2.un y hy ha
     ·refine ow.2 ⟨afC.imp_of_mem λ{p q} hp hq _ ha _=>?_,W2.ji,λp hp q hq ha _=>?_⟩
      ·rw [NR (y6 p hp).1] at ha;cases ha
      ·rw [NR (y6 p hp).1] at ha;cases ha
     ·rcases eP.1 hy with hy|hy
      ·exact hL1 y (W.get y hy) (y6 y hy).1
      ·exact Yc y hy
    ·
     have hF:=B.back x.1 x.2.1 (wD x yd) (by simpa using yg x yd)
     exact absurd rfl (Li.zj hi hF (ju.1 yf).1 hh (by simp))
theorem amg (C:X.Ok P) (I:pj X) {call:ss} (CO:AD P X call) {r:Bool} {F:Fence} (RR:RF r F) {id:Nat} {ops:Array Oper} (hs:xA ops.toList=true) (hd:J4 ops.toList=true) {i:Nat} (hb:Pe ops.toList i=true) {Q:Exit->Act->World->Prop} {k:St->Prop}
  (hk:∀s' η' H' a' w',Den f s' η' H' a' w'->k s'->Q .normal a' w') (D:Den f s η H a w) (h:Vx X call f.sS ops.toList i s k):(Code.region id ops true).wpIn F 0 P Q a w:=by
 refine wpIn_mono (Q:=wQ (Q .normal)) ?_ (λe a' w' h=>by cases e<;>first|exact h|exact h.elim)
 have hk:∀s' η' H' a' w',Den f s' η' H' a' w'->k s'->wQ (Q .normal) .normal a' w':=hk
 have O:=aab hd
 obtain ⟨fk,B⟩:=amf hb
 unfold Vx at h
 rw [B.at_] at h
 simp only at h
 split at h
 ·exact h.elim
 rename_i HQ
 let n:=s.b.length
 let s0:St:={ s with b:=s.b++jI (rF ops.toList) }
 have D1:=D.ext (rF ops.toList)
 have D2:Den f s0 η H a { w with drawn:=w.drawn+1 }:=D1.grown (SB w none)
 have W:mD ops s0 (items ops.toList n):=SP hs s
 have hlen:(items ops.toList n).length=ops.size:=by
  have:=congrArg List.length (vQ ops.toList n)
  simpa using this
 have E7:i < ops.size:=by
  have:=(bW.1 B.at_).1
  simpa using this
 have gV:items ops.toList n=(items ops.toList n).take i++(items ops.toList n)[i]'(by rw [hlen];exact E7) :: (items ops.toList n).drop (i+1):=by
  rw [aa0,List.take_append_drop]
 have E5:∀(j:Nat) (x:Nat × Oper × Nat),(items ops.toList n)[j]?=some x->x.1=j/\ops[j]?=some x.2.1/\(fA ops.toList n)[j]?=some x.2:=by
  intro j x hx
  have h1:=W.get x (cb hx)
  have h2:((items ops.toList n).map (·.1))[j]?=some x.1:=by rw [m7,hx];rfl
  rw [vQ,Jw (by
   have:=(bW.1 hx).1
   rw [hlen] at this;simpa using this)] at h2
  simp at h2
  have h3:(ol (items ops.toList n))[j]?=some x.2:=by unfold ol;rw [m7,hx];rfl
  rw [Av] at h3
  exact ⟨h2.symm,by rw [h2];exact h1,h3⟩
 have Mc:(items ops.toList n)[i]?=some ((items ops.toList n)[i]'(by rw [hlen];exact E7)):=eo _
 generalize (items ops.toList n)[i]'(by rw [hlen];exact E7)=hh at gV Mc
 obtain ⟨Ix,Rj,_⟩:=E5 i hh Mc
 have Qq:hh.2.1=fk:=by
  have:ops[i]?=some fk:=by simpa using B.at_
  rw [Rj] at this;simpa using this
 have inc:(items ops.toList n).Pairwise (λx y=>x.1 < y.1):=by
  have h2:((items ops.toList n).map (·.1)).Pairwise (· < ·):=by rw [vQ];exact S6
  rw [yJ] at h2
  exact h2
 have K8:=inc
 rw [gV] at K8
 have HR:=ow.1 K8
 have Yd:ol ((items ops.toList n).take i)=(fA ops.toList n).take i:=by unfold ol;rw [Tp];show (ol (items ops.toList n)).take i=_;rw [Av]
 have Md:ol ((items ops.toList n).drop (i+1))=(fA ops.toList n).drop (i+1):=by unfold ol;rw [List.map_drop];show (ol (items ops.toList n)).drop (i+1)=_;rw [Av]
 have FA:rJ ops.toList (sZ ops.toList (fA ops.toList n) s) s0 :=
  ⟨λt A hA l hl=>by
   have hl:iR s t=some l:=hl
   exact Jp hA (by simp [Ex,hl]),Ol,J5 HQ⟩
 have wD:∀y∈(items ops.toList n).drop (i+1),hh.1 < y.1:=λy hy=>(lW.1 HR.2.1).1 y hy
 refine wpIn_region_any C.mixed ?_
 refine amA C I CO RR O (by rw [Ix,Qq];exact B) hs hk (k1:=λs2=>match EL ((fA ops.toList s.b.length).drop (i+1)) s2.b&&CF ops.toList (sZ ops.toList (fA ops.toList s.b.length) s2) ops.toList with
    | true=>PJ X (G8 ops.toList i) s2/\kO X ops.toList ((fA ops.toList s.b.length).drop (i+1)) s2 k
    | false=>False) (R:=(items ops.toList n).drop (i+1)) wD
  (λy hy=>W.get y (r9 hy)) (λs2 lP=>?_) ops.size ((items ops.toList n).take i) ?_ (λy hy=>HR.2.2 y hy hh (by simp)) (W.sub (N4 _ _)) FA
  (λy hy=>On s y (sQ hy)) ⟨?_,?_,?_,?_⟩ D2 ?_
 ·split at lP
  ·rename_i hq
   simp only [eh] at hq
   refine ⟨sZ ops.toList (fA ops.toList n) s2,⟨λx hx=>W.get x (r9 hx),λx hx=>W.store x (r9 hx),λx hx ha=>?_,W.ji.sublist (List.drop_sublist _ _)⟩,
    λds=>⟨λt A hA l hl=>Jp hA (by simp [Ex,anZ hl]),Ol,J5 hq.2⟩,λy hy hl t A _ _ ha _=>(by rw [NR hl] at ha;cases ha),λy hy=>On s2 y (r9 hy),
    λq hq=>abm lP.1 q (by rw [Ix] at hq;exact hq),by rw [Md];exact lP.2⟩
   refine TE hq.1 x.2 ?_ ha
   rw [<-Md]
   exact GF hx
  ·exact lP.elim
 ·simp only [lJ,xx,hlen];omega
 ·rw [<-gV];exact inc
 ·intro j hj
  rw [<-gV]
  have:(Array.replicate ops.size false).getD j true=false:=by simp [hj]
  simp only [this,true_iff]
  have hm:j∈(items ops.toList n).map (·.1):=by rw [vQ];simpa using hj
  obtain ⟨x,hx,rfl⟩:=lX.1 hm
  exact ⟨x,hx,rfl⟩
 ·intro j
  by_cases hj:j < ops.size
  ·right;left;simp [hj]
  ·right;right;omega
 ·intro j o e ho hl
  exfalso
  by_cases hj:j < ops.size
  ·simp [hj] at hl
  ·simp [hj] at hl
 ·rw [Yd,Qq];exact h
end
end
end Go.Vc
