import Derived.Test.YthnhbemmlfaihaaGreatQ6
import Derived.OrdersIn
set_option linter.unusedVariables false
set_option linter.unusedSimpArgs false
set_option maxRecDepth 10000
set_option maxHeartbeats 64000000
namespace Go.Vc
open Go
def Bm:List Oper->List Nat->List Nat
 | [],acc=>acc
 | o :: r,acc=>Bm r (acc++[qR acc o])
def wz (X:Ctx) (o:Oper):Bool:=match o.op with
 | .alloc e=>o.guard.isNone&&(o.after.toList.all λe=>!Region.binds .any e)&&o.dst.isSome&&(X.tt e).isSome
 | _=>false
def adr (ops:List Oper) (j:Nat):Nat->Option Tmp->Bool
 | _,none=>false
 | _,some d=>ops.zipIdx.all λp=>Nat.beq p.2 j||!JG p.1 d
def Ni (X:Ctx) (ops:List Oper) (ms:List Nat) (i:Nat):List Oper->Nat->Bool
 | [],_=>true
 | o :: r,j=>((ms.getD j 0).testBit i||(wz X o&&adr ops j 0 o.dst))&&Ni X ops ms i r (j+1)
def Oc (X:Ctx) (ops:List Oper) (i:Nat):Bool :=
 (match ops[i]? with
  | some o=>o.guard.isNone&&(!gu o.op&&(!sL o.op&&!wy o.op))
  | none=>false)&&((List.range i).all λj=>((Bm ops []).getD i 0).testBit j)&&Ni X ops (Bm ops []) i (ops.drop (i+1)) (i+1)
def JI (X:Ctx):List Oper->Nat->Option Nat
 | [],_=>none
 | o :: r,j=>match o.op with
  | .call c=>match c.callee with
   | .value (.func f)=>match X.sp f with
    | some _=>JI X r (j+1)
    | none=>match X.inl f with
     | some _=>some j
     | none=>JI X r (j+1)
   | _=>JI X r (j+1)
  | _=>JI X r (j+1)
def Gi (X:Ctx):List Oper->List Nat
 | []=>[]
 | o :: r=>match wz X o,o.dst with
  | true,some d=>d :: Gi X r
  | _,_=>Gi X r
def mb:List Nat->List SV->List SV
 | [],t=>t
 | d :: r,t=>mb r (t.set d .any)
def DH:List (Oper × Nat)->List Slot->Bool
 | [],_=>true
 | (o,l) :: r,b=>(match gu o.op with
  | true=>match b[l]? with
   | some .un=>true
   | _=>false
  | false=>true)&&DH r b
def Bn (X:Ctx) (ops:List Oper) (i:Nat) (s:St):St:=⟨mb (Gi X (ops.drop (i+1))) s.t,s.b⟩
def Us (X:Ctx) (call:pK) (S:List SV) (ops:List Oper) (i:Nat) (s:St) (k:St->Prop):Prop:=match ops[i]? with
 | none=>False
 | some h=>match adl ops (Bn X ops i s)&&(Gi X (ops.drop (i+1))).all λd=>Nat.blt d s.t.length with
  | false=>False
  | true=>km X ops ((e9 ops s.b.length).take i) { Bn X ops i s with b:=s.b++jY (qn ops) } λs1 =>
   w7 X call S h 0 s1 λs2=>match DH ((e9 ops s.b.length).drop (i+1)) s2.b&&Bs ops (rN ops (e9 ops s.b.length) s2) ops with
    | true=>km X ops ((e9 ops s.b.length).drop (i+1)) s2 k
    | false=>False
theorem QY (ops:List Oper):∀(r pre:List Oper) (acc:List Nat),ops=pre++r->acc.length=pre.length ->
  (∀i j,(acc.getD i 0).testBit j=true->nQ ops j i)->∀i j,((Bm r acc).getD i 0).testBit j=true->nQ ops j i
 | [],pre,acc,_,_,hm=>hm
 | o :: r,pre,acc,he,hl,hm=>by
  have nm:ops[pre.length]?=some o:=by rw [he];simp
  have DF:∀j,(qR acc o).testBit j=true->nQ ops j pre.length:=by
   intro j hj S hS hi
   rcases Sj acc o.after.toList 0 j hj with h|⟨e,h4,h5,h6⟩
   ·simp at h
   ·have BT:=hi o e nm h4 h5
    rcases h6 with h6|h6
    ·rw [<-h6];exact BT
    ·exact hm e.on j h6 S hS λo' e' im gm iV=>hS e.on o' e' im BT gm iV
  refine QY ops r (pre++[o]) (acc++[qR acc o]) (by rw [he];simp) (by simp [hl]) λi j hj=>?_
  rw [List.getD_eq_getElem?_getD] at hj
  by_cases aP:i < acc.length
  ·rw [j7 aP] at hj
   exact hm i j (by rw [List.getD_eq_getElem?_getD];exact hj)
  ·rw [qb (by omega)] at hj
   by_cases nt:i=acc.length
   ·subst nt
    rw [hl]
    exact DF j (by simpa using hj)
   ·have:([qR acc o]:List Nat)[i - acc.length]?=none:=by simp;omega
    rw [this] at hj
    simp at hj
structure ads (X:Ctx) (ops:List Oper) (i:Nat):Prop where
 call:∃o,ops[i]?=some o/\o.guard=none/\gu o.op=false/\sL o.op=false/\wy o.op=false
 xY:∀j,j < i->nQ ops j i
 back:∀j o,i < j->ops[j]?=some o->nQ ops i j\/(wz X o=true/\∃d,o.dst=some d/\∀j' o',ops[j']?=some o'->j'≠j->o'.dst≠some d)
theorem Yu {X:Ctx} {ops:List Oper} {ms:List Nat} {i:Nat} (hm:∀a b,(ms.getD a 0).testBit b=true->nQ ops b a):∀(r:List Oper) (j0:Nat),Ni X ops ms i r j0=true ->
  ∀j o,r[j]?=some o->nQ ops i (j0+j)\/(wz X o=true/\∃d,o.dst=some d/\∀j' o',ops[j']?=some o'->j'≠j0+j->o'.dst≠some d)
 | [],_,_,j,o,h=>by simp at h
 | x :: r,j0,hb,j,o,h=>by
  simp only [Ni,cQ,px] at hb
  cases j with
  | zero =>
   simp at h;subst h
   rcases hb.1 with h1|⟨h1,h2⟩
   ·exact .inl (hm _ _ h1)
   ·right
    refine ⟨h1,?_⟩
    unfold adr at h2
    split at h2
    ·cases h2
    ·rename_i d hd
     refine ⟨d,hd,λj' o' im bW kM=>?_⟩
     have:=jo.1 h2 (o',j') (by rw [FY];simpa using im)
     simp only [px,pw] at this
     rcases this with h3|h3
     ·exact bW (by rw [ot h3];rfl)
     ·rw [RP.2 kM] at h3;cases h3
  | succ j =>
   have:=Yu hm r (j0+1) hb.2 j o (by simpa using h)
   rwa [show j0+1+j=j0+(j+1) by omega] at this
theorem ajD {X:Ctx} {ops:List Oper} {i:Nat} (h:Oc X ops i=true):ads X ops i:=by
 have hm:=QY ops ops [] [] rfl rfl (λi j h=>by simp at h)
 unfold Oc at h
 simp only [cQ] at h
 obtain ⟨⟨h1,h2⟩,h3⟩:=h
 refine ⟨?_,λj hj=>hm i j (by simpa using jo.1 h2 j (by simpa using hj)),λj o hj ho=>?_⟩
 ·split at h1
  ·rename_i o ho
   simp only [cQ,pw] at h1
   exact ⟨o,ho,by simpa using h1.1,h1.2.1,h1.2.2.1,h1.2.2.2⟩
  ·cases h1
 ·have:=Yu hm (ops.drop (i+1)) (i+1) h3 (j - (i+1)) o (by rw [ky,show i+1+(j - (i+1))=j by omega];exact ho)
  rwa [show i+1+(j - (i+1))=j by omega] at this
structure Float (X:Ctx) (o:Oper) (e:TypeId) (i:TI) (d:Tmp):Prop where
 op:o.op=.alloc e
 dst:o.dst=some d
 ti:X.tt e=some i
 guard:o.guard=none
 after:∀e∈o.after.toList,Region.binds .any e=false
theorem Sm {X:Ctx} {o:Oper} (h:wz X o=true):∃e i d,Float X o e i d:=by
 unfold wz at h
 split at h
 ·rename_i e he
  simp only [cQ] at h
  obtain ⟨⟨⟨h1,h2⟩,h3⟩,h4⟩:=h
  obtain ⟨d,hd⟩:=tR.1 h3
  obtain ⟨i,hi⟩:=tR.1 h4
  exact ⟨e,i,d,he,hd,hi,by simpa using h1,λe he=>by simpa using jo.1 h2 e he⟩
 ·cases h
theorem QJ {X:Ctx} {ops:List Oper} {o:Oper} {e:TypeId} {ti:TI} {d:Tmp} (F:Float X o e ti d) {i:Nat} (hi:ops[i]?=some o) (j:Nat):¬nQ ops j i:=by
 intro h
 refine h (λ_=>False) (λ_ _ _ _ h _ _=>h) λo' e' im gm iV=>?_
 rw [hi] at im
 simp at im
 subst im
 rw [F.after e' gm] at iV
 cases iV
def Fr.Bv (f:Fr) (bl:Nat) (o:Obj):Fr:={ f with F:=λb=>if b=bl then some o else f.F b }
inductive ui (X:Ctx) (a:Act) (f:Fr):List (Nat × Oper × Nat)->Fr->Prop
 | nil:ui X a f [] f
 | cons {E:List (Nat × Oper × Nat)} {f1:Fr} {x:Nat × Oper × Nat} {e:TypeId} {i:TI} {d:Tmp} {bl:Nat}:ui X a f E f1->Float X x.2.1 e i d->f1.H0 bl=none->f1.F bl=none ->
  a.tmps[d]?=some (.pointer (some ⟨bl,0,none⟩))->ui X a f (x :: E) (f1.Bv bl (.cells i.zero.cells e (0,0)))
section
variable {P:Program} {X:Ctx} {f f1:Fr} {s:St} {η:Nat->Value} {H:bB} {a a':Act} {w:World} {o:Oper}
theorem ui.sS {E:List (Nat × Oper × Nat)} (h:ui X a f E f1):f1.sS=f.sS:=by
 induction h with
 | nil=>rfl
 | cons _ _ _ _ _ ih=>exact ih
theorem ui.GK {E:List (Nat × Oper × Nat)} (h:ui X a f E f1) (ha:∀x∈E,∀d,x.2.1.dst=some d->a'.tmps[d]?=a.tmps[d]?):ui X a' f E f1:=by
 induction h with
 | nil=>exact .nil
 | cons _ hf h1 h2 h3 ih=>exact .cons (ih λx hx=>ha x (by simp [hx])) hf h1 h2 (by rw [ha _ (by simp) _ hf.dst];exact h3)
theorem abb {r:Bool} {F:Fence} (R:RF r F) {ops:Array Oper} {Q:Exit->Act->World->Prop} (hs:u9 ops.toList=true) (hQ:¬LetsOut Q):∀(n:Nat) (cN:Array Bool) (a:Act) (w:World),
  wpAny P .any ops Q n cN a w->wpAnyIn F 0 P .any ops Q n cN a w:=by
 intro n
 induction n with
 | zero=>intro cN a w h;exact h
 | succ n ih =>
  intro cN a w h
  refine ⟨h.1,λi hi=>?_⟩
  have h1:=h.2 i hi
  unfold wpOp at h1
  unfold wpOpIn
  cases ho:ops[i]? with
  | none=>rw [ho] at h1;exact ih _ _ _ h1
  | some o =>
   rw [ho] at h1
   simp only at h1 ⊢
   by_cases hw:Region.wanted o (yielded ops a.tmps)=true
   ·rw [if_pos hw] at h1 ⊢
    rcases h1 with h1|h1
    ·refine Oper.wpIn_mono (λa w h=>ih _ a w h) (zg R ?_ h1)
     have:=jo.1 hs o (by simpa using xB ho)
     cases cH:sL o.op
     ·rw [cH] at this;simpa using this
     ·cases fC:o.op<;>rw [fC] at cH<;>first|rfl|cases cH
    ·exact absurd h1.2 hQ
   ·rw [if_neg hw] at h1 ⊢
    exact ⟨λg _=>R.fn g,ih _ _ _ h1⟩
theorem AT (a:Act) (dst:Option Tmp) (v:Value) (d:Tmp) (h:dst≠some d):(a.put dst v).tmps[d]?=a.tmps[d]?:=by
 cases dst with
 | none=>rfl
 | some d' =>
  have:d'≠d:=λe=>h (by rw [e])
  simp [Act.put,Q9 this]
theorem Yv {F:Fence} {K:Act->World->Prop} {Q:Exit->Act->World->Prop} (h:o.wpIn F 0 P a w K Q):o.wpIn F 0 P a w (λa' w'=>K a' w'/\∀d,o.dst≠some d->a'.tmps[d]?=a.tmps[d]?) Q:=by
 refine ⟨h.1,?_⟩
 have h2:=h.2
 generalize (o.semAt F.round a.eval).run P w=z at *
 cases z with
 | ok x w' =>
  cases x<;>simp only [Oper.uponIn] at h2 ⊢
  case value v=>exact ⟨h2,λd hd=>AT a o.dst v d hd⟩
  case skip=>exact ⟨h2,λd hd=>AT a o.dst _ d hd⟩
  case defer dd=>exact ⟨h2,λd hd=>AT { a with defers:=dd :: a.defers } o.dst _ d hd⟩
  case enter=>exact ⟨h2.1,CallsIn.mono h2.2 λe KN he=>by cases e<;>first|exact ⟨he,λd hd=>AT a o.dst _ d hd⟩|exact he⟩
  case row=>exact ⟨h2.1,RowsIn.mono h2.2 λv KN he=>⟨he,λd hd=>AT a o.dst _ d hd⟩⟩
  case round=>exact ⟨h2.1,RoundIn.mono h2.2 λe KN he=>by cases e<;>first|exact ⟨he,λd hd=>AT a o.dst _ d hd⟩|exact he⟩
  all_goals exact h2
 | halt x w'=>cases x<;>simp only [Oper.uponIn] at h2 ⊢<;>exact h2
theorem amC (t:List SV) (d:Nat) (h:t[d]?=some .any\/t[d]?=none):t.set d .any=t:=by
 rcases h with h|h
 ·exact M7 t d _ h
 ·exact YS (by simpa using h)
theorem Den.early (C:X.Ok P) (D:Den f1 s η H a w) {e:TypeId} {i:TI} {d:Tmp} (Fl:Float X o e i d) (ht:s.t[d]?=some .any\/s.t[d]?=none) {F:Fence} {r:Bool} (R:RF r F) {K:Act->World->Prop} {Q:Exit->Act->World->Prop}
  (hK:∀bl a' w',f1.H0 bl=none->f1.F bl=none->(d < a.tmps.size->a'.tmps[d]?=some (.pointer (some ⟨bl,0,none⟩)))->(∀j,j≠d->a'.tmps[j]?=a.tmps[j]?)->Den (f1.Bv bl (.cells i.zero.cells e (0,0))) s η H a' w'->K a' w'):o.wpIn F 0 P a w K Q:=by
 refine zg R (by rw [Fl.op];rfl) ?_
 have I:=C.tt _ _ Fl.ti
 have hr:(execOp a.eval o).run P w=.ok (.value (.pointer (some ⟨w.heap.size,0,none⟩))) (w.alloc (.cells i.zero.cells e)):=by
  have hz:=Je I w
  simp [execOp,Fl.op,Instr.alloc,hz,Vc.QU,Result.andThen]
 unfold Oper.wp
 rw [hr]
 have fv:∀b o,w.heap[b]?=some o->b < w.heap.size:=λb o h=>(fW.1 h).1
 have PE:f1.H0 w.heap.size=none:=by
  cases h:f1.H0 w.heap.size with
  | none=>rfl
  | some o'=>exact absurd (fv _ _ (D.hw _ _ (D.h0 _ _ h))) (by omega)
 have hF:f1.F w.heap.size=none:=by
  cases h:f1.F w.heap.size with
  | none=>rfl
  | some o'=>exact absurd (fv _ _ (D.fw _ _ h)) (by omega)
 refine hK w.heap.size _ _ PE hF (λhd=>by rw [Fl.dst];simp [Act.put,hd]) (λj hj=>AT a o.dst _ j (by rw [Fl.dst];exact λe=>hj (by simpa using e.symm))) ?_
 have D1:=D.grown (World.grownBy_alloc w (.cells i.zero.cells e) none)
 have D2:=Den.put D1 o.dst (x:=.any) (v:=.pointer (some ⟨w.heap.size,0,none⟩)) (by simp only [rel])
 rw [Fl.dst] at D2
 simp only [amC s.t d ht] at D2
 rw [<-Fl.dst] at D2
 exact {
  t:=D2.t
  sv:=D2.sv
  d:=D2.d
  h0:=D2.h0
  hw:=D2.hw
  fw:=λb ob h=>by
   simp only [Fr.Bv] at h
   split at h
   ·rename_i e1
    subst e1
    cases h
    exact (MapKept.heap_alloc w _).1
   ·exact D2.fw b ob h
  hf:=λb h=>by
   rcases D2.hf b h with h1|h1
   ·exact .inl h1
   ·right
    simp only [Fr.Bv]
    rw [if_neg]
    ·exact h1
    ·intro e1
     cases hh:H b with
     | none=>exact h hh
     | some ob=>have:=fv _ _ (D.hw _ _ hh);omega
  sl:=D2.sl
  dj:=D2.dj
  dh:=λl b h1 h2=>by
   have:=D2.dh l b h1 h2
   refine ⟨this.1,?_⟩
   simp only [Fr.Bv]
   rw [if_neg]
   ·exact this.2
   ·have:=D.Dd h1 h2;omega
  os:=D2.os
  tape:=D2.tape
  out:=D2.out }
theorem Den.restore {e:TypeId} {i:TI} {d l bl:Nat} (D:Den (f1.Bv bl (.cells i.zero.cells e (0,0))) s η H a w) (h0:f1.H0 bl=none) (hF:f1.F bl=none) (ha:a.tmps[d]?=some (.pointer (some ⟨bl,0,none⟩)))
  (hl:s.b[l]?=some .un):Den f1 ⟨s.t.set d (.ptr l 0),s.b.set l (.fix e (i.zero.cells.toList.map lA))⟩ (nL η l (.pointer (some ⟨bl,0,none⟩))) H a w:=by
 have aP:=(bt.1 hl).1
 have Hs:∀b,(f1.Bv bl (.cells i.zero.cells e (0,0))).F b=if b=bl then some (.cells i.zero.cells e (0,0)) else f1.F b:=λb=>rfl
 have hq:∀k,aW (s.b.set l (.fix e (i.zero.cells.toList.map lA))) k=if k=l then .live else aW s.b k:=λk=>by rw [ua k aP];rfl
 have yg:aW s.b l=.un:=cv hl
 have T:iU η (nL η l (.pointer (some ⟨bl,0,none⟩))) (aW s.b) (aW (s.b.set l (.fix e (i.zero.cells.toList.map lA)))):=by
  intro k
  by_cases hk:k=l
  ·subst hk;rw [yg];trivial
  ·rw [hq,if_neg hk,lq _ _ _ _ hk]
   generalize aW s.b k=z
   cases z<;>simp
 have hH:H bl=none:=by
  cases h:H bl with
  | none=>rfl
  | some ob =>
   rcases D.hf bl (by rw [h];simp) with h1|h1
   ·exact absurd h0 h1
   ·rw [Hs,if_pos rfl] at h1;cases h1
 have oY:∀k,k≠l->aW (s.b.set l (.fix e (i.zero.cells.toList.map lA))) k=.live->aW s.b k=.live:=λk hk h=>by rwa [hq,if_neg hk] at h
 have bW:∀k b,aW s.b k=.live->cy (η k)=some b->b≠bl:=by
  intro k b h1 h2 e1
  have:=(D.dh k b h1 h2).2
  rw [Hs,if_pos e1] at this
  cases this
 exact {
  t:=by
   have h1:=gW T (bB.le.refl H) _ _ D.t
   have h2:=yT h1 d (x:=.ptr l 0) (u:=.pointer (some ⟨bl,0,none⟩)) (by
    simp only [rel,hq,if_true]
    exact ⟨bl,fV _ _ _,rfl⟩)
   have e1:a.tmps.toList.set d (.pointer (some ⟨bl,0,none⟩))=a.tmps.toList:=by
    refine qO λj=>?_
    rw [gY]
    split
    ·rename_i hj;subst hj
     have:a.tmps.toList[d]?=some (.pointer (some ⟨bl,0,none⟩)):=by simpa using ha
     rw [this]
     have:=(bt.1 this).1
     simp only [this,if_true]
    ·rfl
   rw [e1] at h2
   exact h2
  sv:=gW T (bB.le.refl H) _ _ D.sv
  d:=D.d
  h0:=D.h0
  hw:=D.hw
  fw:=λb ob h=>D.fw b ob (by rw [Hs,if_neg (λe1=>by rw [e1,hF] at h;cases h)];exact h)
  hf:=λb h=>by
   rcases D.hf b h with h1|h1
   ·exact .inl h1
   ·right
    rw [Hs] at h1
    split at h1
    ·cases h1
    ·exact h1
  sl:=λk x hx=>by
   by_cases hk:k=l
   ·subst hk
    rw [qc aP] at hx
    simp at hx;subst hx
    exact ⟨bl,i.zero.cells,fV _ _ _,D.fw bl _ (by rw [Hs,if_pos rfl]),AE _ _ _ _⟩
   ·rw [ig (λe1=>hk e1.symm)] at hx
    exact (D.sl k x hx).kept T (bB.le.refl H) (lq _ _ _ _ hk) λ_ _=>rfl
  dj:=λk k' b h1 h2 h3 h4=>by
   by_cases hk:k=l<;>by_cases gQ:k'=l
   ·rw [hk,gQ]
   ·exfalso
    subst hk
    rw [fV] at h3
    rw [lq _ _ _ _ gQ] at h4
    simp [cy] at h3
    exact bW k' b (oY k' gQ h2) h4 h3.symm
   ·exfalso
    subst gQ
    rw [fV] at h4
    rw [lq _ _ _ _ hk] at h3
    simp [cy] at h4
    exact bW k b (oY k hk h1) h3 h4.symm
   ·rw [lq _ _ _ _ hk] at h3
    rw [lq _ _ _ _ gQ] at h4
    exact D.dj k k' b (oY k hk h1) (oY k' gQ h2) h3 h4
  dh:=λk b h1 h2=>by
   by_cases hk:k=l
   ·subst hk
    rw [fV] at h2
    simp [cy] at h2
    subst h2
    exact ⟨hH,hF⟩
   ·rw [lq _ _ _ _ hk] at h2
    have h3:=D.dh k b (oY k hk h1) h2
    refine ⟨h3.1,?_⟩
    have h4:=h3.2
    rw [Hs] at h4
    split at h4
    ·cases h4
    ·exact h4
  os:=D.os
  tape:=D.tape
  out:=D.out }
structure oS (ops:Array Oper) (L:List (Nat × Oper × Nat)) (cN:Array Bool):Prop where
 inc:L.Pairwise (λx y=>x.1 < y.1)
 list:∀i,i < ops.size->(cN.getD i true=false↔∃x∈L,x.1=i)
 all:∀i,cN.getD i false=true\/cN.getD i true=false\/ops.size<=i
 down:∀i o e,ops[i]?=some o->cN.getD i false=true->e∈o.after.toList->Region.binds .any e=true->cN.getD e.on false=true
theorem oS.step {ops:Array Oper} {A B:List (Nat × Oper × Nat)} {x:Nat × Oper × Nat} {cN:Array Bool} (h:oS ops (A++x :: B) cN) (hr:x.1∈Region.ready .any ops cN) :
  oS ops (A++B) (cN.setIfInBounds x.1 true):=by
 obtain ⟨kE,nM,eZ,zh⟩:=h
 obtain ⟨h0,o,ho,wF⟩:=mem_ready.1 hr
 have jH:=j8.1 kE
 have J1:x.1 < cN.size:=by
  rcases ov x.1 cN.size with h|h
  ·exact h
  ·simp [C5 h] at h0
 have sW:∀j (d:Bool),(cN.setIfInBounds x.1 true).getD j d=if x.1=j then true else cN.getD j d:=by
  intro j d
  by_cases hj:x.1=j
  ·subst hj;simp [J1]
  ·rw [getD_set_ne d hj,if_neg hj]
 constructor
 ·exact j8.2 ⟨jH.1,(fH.1 jH.2.1).2,λp hp q hq=>jH.2.2 p hp q (by simp [hq])⟩
 ·intro j hj
  rw [sW]
  by_cases jL:x.1=j
  ·subst jL
   simp only [if_true]
   refine ⟨λh=>(by cases h),λ⟨y,hy,BV⟩=>?_⟩
   exfalso
   rcases dR.1 hy with hy|hy
   ·have:=jH.2.2 y hy x (by simp);omega
   ·have:=(fH.1 jH.2.1).1 y hy;omega
  ·rw [if_neg jL,nM j hj]
   constructor
   ·rintro ⟨y,hy,rfl⟩
    rcases dR.1 hy with hy|hy
    ·exact ⟨y,by simp [hy],rfl⟩
    ·rcases cV.1 hy with rfl|hy
     ·exact absurd rfl jL
     ·exact ⟨y,by simp [hy],rfl⟩
   ·rintro ⟨y,hy,rfl⟩
    rcases dR.1 hy with hy|hy
    ·exact ⟨y,by simp [hy],rfl⟩
    ·exact ⟨y,by simp [hy],rfl⟩
 ·intro j
  rw [sW,sW]
  by_cases jL:x.1=j
  ·simp [jL]
  ·rw [if_neg jL,if_neg jL];exact eZ j
 ·intro j o' e hj hl he hb
  rw [sW] at hl ⊢
  split at hl
  ·rename_i jL
   subst jL
   rw [ho] at hj;simp at hj;subst hj
   split
   ·rfl
   ·exact wF e (by simpa using he) hb
  ·split
   ·rfl
   ·exact zh j o' e hj hl he hb
theorem oS.first {ops:Array Oper} (O:Ordered ops.toList) {L:List (Nat × Oper × Nat)} {x:Nat × Oper × Nat} {cN:Array Bool} (h:oS ops (x :: L) cN) (hx:ops[x.1]?=some x.2.1):x.1∈Region.ready .any ops cN:=by
 have aP:=(fW.1 hx).1
 refine mem_ready.2 ⟨(h.list x.1 aP).2 ⟨x,by simp,rfl⟩,x.2.1,hx,λe he hb=>?_⟩
 have xW:=O.back x.1 x.2.1 e (by simpa using hx) (by simpa using he) hb
 rcases h.all e.on with h1|h1|h1
 ·exact h1
 ·obtain ⟨y,hy,BU⟩:=(h.list e.on (by omega)).1 h1
  rcases cV.1 hy with rfl|hy
  ·omega
  ·have:=(fH.1 h.inc).1 y hy;omega
 ·omega
theorem oS.xY {ops:Array Oper} {L:List (Nat × Oper × Nat)} {cN:Array Bool} (h:oS ops L cN) {i j:Nat} (hr:i∈Region.ready .any ops cN) (hF:nQ ops.toList j i) (hj:j < ops.size):∀x∈L,x.1≠j:=by
 intro x hx e
 obtain ⟨h0,o,ho,wF⟩:=mem_ready.1 hr
 have:=hF (λr=>cN.getD r false=true) (λr o' e hr hS he hb=>h.down r o' e (by simpa using hr) hS he hb)
  (λo' e im he hb=>by
   have:o'=o:=by
    have h1:ops[i]?=some o':=by simpa using im
    rw [ho] at h1;simpa using h1.symm
   subst this
   exact wF e (by simpa using he) hb)
 have kZ:=(h.list j hj).2 ⟨x,hx,e⟩
 have DX:j < cN.size:=by
  rcases ov j cN.size with h|h
  ·exact h
  ·simp [C5 h] at this
 simp [DX] at this kZ
 rw [this] at kZ;cases kZ
theorem lP.sub {ops:Array Oper} {L L':List (Nat × Oper × Nat)} (W:lP ops s L) (h:L'.Sublist L):lP ops s L' :=
 ⟨λx hx=>W.get x (h.subset hx),λx hx=>W.store x (h.subset hx),λx hx=>W.un x (h.subset hx),W.ji.sublist h⟩
theorem lP.perm {ops:Array Oper} {L L':List (Nat × Oper × Nat)} (W:lP ops s L) (h:L.Perm L'):lP ops s L' :=
 ⟨λx hx=>W.get x (h.mem_iff.2 hx),λx hx=>W.store x (h.mem_iff.2 hx),λx hx=>W.un x (h.mem_iff.2 hx),(h.pairwise_iff (λ{a b} h h1 h2=>(h h2 h1).symm)).1 W.ji⟩
theorem amD {ops:List Oper} {l:Nat} {s s':St} (h:Out X ops o l s s') {d:Nat} (ht:s.t[d]?=some .any) (hd:o.dst≠some d):s'.t[d]?=some .any:=by
 obtain ⟨g,x,u,h1,rfl⟩:=Dj.1 h
 show (nP o.dst x (nf g s.t))[d]?=some .any
 rw [M8 _ _ _ _ (λj hj e=>hd (by rw [hj,e])),Si]
 ·exact ht
 ·intro j v hg e
  subst e
  rcases h1.guard with ⟨_,h2⟩|⟨i,y,v',_,h2,h3,h4⟩
  ·rw [h2] at hg;cases hg
  ·rw [h2] at hg
   simp at hg
   obtain ⟨rfl,rfl⟩:=hg
   rw [ht] at h3
   simp at h3
   subst h3
   simp [ma] at h4
theorem akh {ops:List Oper} {l:Nat} {s s':St} {e:TypeId} {i:TI} {d:Tmp} (Fl:Float X o e i d) (h:Out X ops o l s s'):s'=⟨s.t.set d (.ptr l 0),s.b.set l (.fix e (i.zero.cells.toList.map lA))⟩:=by
 unfold Out wL at h
 rw [Fl.guard] at h
 obtain ⟨x,u,h1,rfl⟩:=h
 rw [Fl.op] at h1
 simp only [eJ,Fl.ti] at h1
 obtain ⟨rfl,rfl⟩:=h1
 simp [St.jJ,Fl.dst,l8]
theorem ajh (C:X.Ok P) {ops:Array Oper} (O:Ordered ops.toList) {k:St->Prop} {E:List (Nat × Oper × Nat)} (hp:ui X a f E f1):∀{R:List (Nat × Oper × Nat)} {s:St} {η:Nat->Value} {Ks:Tmp->List Nat},Den f1 s η H a w->lP ops s R->qv ops.toList Ks s ->
  (∀y∈R,vk ops.toList Ks y.2.1 y.2.2)->R.Pairwise (λx y=>x.1 < y.1)->(∀x∈E,x∈R)->E.Pairwise (λx y=>x.1≠y.1)->km X ops.toList (ol R) s k ->
  ∃(s':St) (η':Nat->Value) (R':List (Nat × Oper × Nat)),Den f s' η' H a w/\lP ops s' R'/\qv ops.toList Ks s'/\(∀y∈R',vk ops.toList Ks y.2.1 y.2.2)/\R'.Pairwise (λx y=>x.1 < y.1) /\
   (∀y,y∈R'↔y∈R/\∀x∈E,x.1≠y.1)/\km X ops.toList (ol R') s' k:=by
 induction hp with
 | nil=>intro R s η Ks D W FA hL kE _ _ h;exact ⟨s,η,R,D,W,FA,hL,kE,λy=>by simp,h⟩
 | @cons E f1 x e i d bl hp Fl h0 hF ha ih =>
  intro R s η Ks D W FA hL kE vI EB h
  have w8:=vI x (by simp)
  obtain ⟨A,B,rfl⟩:=FI w8
  have jH:=j8.1 kE
  have ju:=W.get x (by simp)
  have hA:∀p∈A,wE ops.toList p.2.1 x.2.1:=by
   intro p ra
   have vF:=W.get p (by simp [ra])
   rcases O.apart x.1 x.2.1 p.1 p.2.1 (by simpa using ju) (by simpa using vF) (jH.2.2 p ra x (by simp)) with hF|hi
   ·exact absurd hF (QJ Fl (by simpa using ju) _)
   ·exact Mu hi
  have h2:=Jz C x B A ⟨η,H,a,w,D⟩ FA hL W hA h
  obtain ⟨s1,h3,h4⟩:=tQ.1 h2
  have ri:gu x.2.1.op=true:=by rw [Fl.op];rfl
  have D1:=D.restore h0 hF ha (W.un x (by simp) ri)
  have e1:=akh Fl h3
  rw [<-e1] at D1
  have mB:(A++x :: B).Perm (x :: (A++B)):=IV
  have W':=(W.perm mB).tail h3
  obtain ⟨hEx,arw⟩:=fH.1 EB
  obtain ⟨s',η',R',g1,g2,g3,g4,g5,g6,g7⟩:=ih D1 W' (FA.out (Array.mem_toList_iff.2 (xB ju)) (hL x (by simp)) (λf S h=>(C.sp f S h).lr) h3)
   (λy hy=>hL y (mB.mem_iff.2 (by simp only [cV];exact .inr hy))) (j8.2 ⟨jH.1,(fH.1 jH.2.1).2,λp hp q hq=>jH.2.2 p hp q (by simp [hq])⟩)
   (λy hy=>by
    have:=mB.mem_iff.1 (vI y (by simp [hy]))
    rcases cV.1 this with e2|h5
    ·exact absurd (by rw [e2]) (hEx y hy)
    ·exact h5) arw h4
  refine ⟨s',η',R',g1,g2,g3,g4,g5,λy=>?_,g7⟩
  rw [g6]
  constructor
  ·rintro ⟨h5,h6⟩
   refine ⟨mB.mem_iff.2 (by simp only [cV];exact .inr h5),λz hz=>?_⟩
   rcases cV.1 hz with rfl|hz
   ·rcases dR.1 h5 with h5|h5
    ·have:=jH.2.2 y h5 z (by simp);omega
    ·have:=(fH.1 jH.2.1).1 y h5;omega
   ·exact h6 z hz
  ·rintro ⟨h5,h6⟩
   refine ⟨?_,λz hz=>h6 z (by simp [hz])⟩
   rcases cV.1 (mB.mem_iff.1 h5) with rfl|h5
   ·exact absurd rfl (h6 y (by simp))
   ·exact h5
theorem ale (C:X.Ok P) {r:Bool} {F:Fence} (RR:RF r F) {ops:Array Oper} (O:Ordered ops.toList) (hs:u9 ops.toList=true) {Q:Exit->Act->World->Prop} (hQ:¬LetsOut Q) {k:St->Prop}
  (hk:∀s' η' H' a' w',Den f s' η' H' a' w'->k s'->Q .normal a' w') {E:List (Nat × Oper × Nat)} (hp:ui X a f E f1) {R R':List (Nat × Oper × Nat)} {Ks:Tmp->List Nat} {cN:Array Bool} (D:Den f1 s η H a w) (W:lP ops s R) (FA:qv ops.toList Ks s)
  (hL:∀y∈R,vk ops.toList Ks y.2.1 y.2.2) (kE:R.Pairwise (λx y=>x.1 < y.1)) (vI:∀x∈E,x∈R) (EB:E.Pairwise (λx y=>x.1≠y.1)) (h:km X ops.toList (ol R) s k) (rj:∀y,y∈R'↔y∈R/\∀x∈E,x.1≠y.1)
  (Li:oS ops R' cN):wpAnyIn F 0 P .any ops Q R'.length cN a w:=by
 obtain ⟨s',η',R2,D',W',KP,KQ,adt,hm,h'⟩:=ajh C O hp D W FA hL kE vI EB h
 have hlen:R2.length=R'.length:=by
  have n1:R2.Nodup:=adt.imp λh e=>by rw [e] at h;omega
  have n2:R'.Nodup:=Li.inc.imp λh e=>by rw [e] at h;omega
  exact ((MC n1 n2).2 λy=>by rw [hm,rj]).length_eq
 refine abb RR hs hQ _ _ _ _ ?_
 refine aa8 C O hk _ R2 hlen W' adt (λi hi=>?_) Li.all Li.down KP KQ D' h'
 rw [Li.list i hi]
 constructor
 ·rintro ⟨y,hy,e⟩;exact ⟨y,(hm y).2 ((rj y).1 hy),e⟩
 ·rintro ⟨y,hy,e⟩;exact ⟨y,(rj y).2 ((hm y).1 hy),e⟩
theorem aki (C:X.Ok P) (I:nO X) {call:pK} (CO:xJ P X call) {r:Bool} {F:Fence} (RR:RF r F) {ops:Array Oper} (O:Ordered ops.toList) {i0:Nat} (B:ads X ops.toList i0) (hs:u9 ops.toList=true) {Q:Exit->Act->World->Prop} (hQ:¬LetsOut Q) {k k1:St->Prop}
  (hk:∀s' η' H' a' w',Den f s' η' H' a' w'->k s'->Q .normal a' w') {hh:Nat × Oper × Nat} (dV:hh.1=i0) (w9:ops[hh.1]?=some hh.2.1) {R:List (Nat × Oper × Nat)} (apM:R.Pairwise (λx y=>x.1 < y.1)) (vx:∀y∈R,i0 < y.1)
  (xa:∀y∈R,ops[y.1]?=some y.2.1)
  (jd:∀s2,k1 s2->∃Ks,lP ops s2 R/\qv ops.toList Ks s2/\(∀y∈R,vk ops.toList Ks y.2.1 y.2.2)/\km X ops.toList (ol R) s2 k) :
  ∀(n:Nat) (A E R':List (Nat × Oper × Nat)) {cN:Array Bool} {Ks:Tmp->List Nat} {f1:Fr} {s:St} {η:Nat->Value} {H:bB} {a:Act} {w:World},A.length+R'.length+1=n->(∀y∈A,y.1 < i0)->lP ops s A->qv ops.toList Ks s->(∀y∈A,vk ops.toList Ks y.2.1 y.2.2) ->
   (∀y,y∈R'↔y∈R/\∀x∈E,x.1≠y.1)->(∀x∈E,x∈R)->E.Pairwise (λx y=>x.1≠y.1)->(∀y∈R,wz X y.2.1=true->∀d,y.2.1.dst=some d->s.t[d]?=some .any)->oS ops (A++hh :: R') cN->ui X a f E f1->Den f1 s η H a w ->
   km X ops.toList (ol A) s (λs1=>w7 X call f.sS hh.2.1 0 s1 k1)->wpAnyIn F 0 P .any ops Q n cN a w:=by
 intro n
 induction n with
 | zero=>intro A E R' _ _ _ _ _ _ _ _ hn;omega
 | succ n ih =>
  intro A E R' cN Ks f1 s η H a w hn DZ W FA hL rj vI EB Ut Li hp D h
  have vr:∀y∈A++hh :: R',ops[y.1]?=some y.2.1:=by
   intro y hy
   rcases dR.1 hy with hy|hy
   ·exact W.get y hy
   ·rcases cV.1 hy with rfl|hy
    ·exact w9
    ·exact xa y ((rj y).1 hy).1
  obtain ⟨oc,hoc,hcg,VP,fS,hcd⟩:=B.call
  have OL:hh.2.1=oc:=by
   have h1:ops.toList[i0]?=some hh.2.1:=by rw [<-dV];simpa using w9
   rw [hoc] at h1;simpa using h1.symm
  have Uu:∀y:Nat × Oper × Nat,ops[y.1]?=some y.2.1->(∀x∈E,x.1≠y.1)->∀x∈E,∀d,x.2.1.dst=some d->y.2.1.dst≠some d:=by
   intro y hy bW x hx d hd EC
   have ju:=xa x (vI x hx)
   rcases B.back x.1 x.2.1 (vx x (vI x hx)) (by simpa using ju) with hF|⟨hf,d',kM,dg⟩
   ·obtain ⟨e,i,PG,Fl⟩:=Sm (X:=X) (o:=x.2.1) (by
     have:∀{E f1},ui X a f E f1->∀x∈E,wz X x.2.1=true:=by
      intro E f1 hp
      induction hp with
      | nil=>intro x hx;cases hx
      | cons _ Fl _ _ _ ih =>
       intro x hx
       rcases cV.1 hx with rfl|hx
       ·unfold wz
        rw [Fl.op]
        simp only [Fl.guard,Fl.dst,Fl.ti,Option.isNone_none,Option.isSome_some,RK,IY]
        exact jo.2 λe he=>by rw [Fl.after e he];rfl
       ·exact ih x hx
     exact this hp x hx)
    exact QJ Fl (by simpa using ju) _ hF
   ·rw [hd] at kM
    simp at kM
    subst kM
    exact dg y.1 y.2.1 (by simpa using hy) (λe=>bW x hx e.symm) EC
  constructor
  ·intro hr
   cases A with
   | nil =>
    have:=oS.first O Li w9
    rw [hr] at this;cases this
   | cons x A =>
    have:=oS.first O (L:=A++hh :: R') Li (W.get x (by simp))
    rw [hr] at this;cases this
  ·intro i hi
   obtain ⟨h0,o,ho,wF⟩:=mem_ready.1 hi
   have aP:=(fW.1 ho).1
   obtain ⟨x,hx,rfl⟩:=(Li.list i aP).1 h0
   rcases dR.1 hx with VQ|w8
   ·
    obtain ⟨A1,A2,rfl⟩:=FI VQ
    have ju:=W.get x (by simp)
    have vJ:=oS.step (A:=A1) (B:=A2++hh :: R') (by simpa using Li) hi
    have jH:=j8.1 (j8.1 Li.inc).1
    have hA:∀p∈A1,wE ops.toList p.2.1 x.2.1:=by
     intro p ra
     have vF:=W.get p (by simp [ra])
     rcases O.apart x.1 x.2.1 p.1 p.2.1 (by simpa using ju) (by simpa using vF) (jH.2.2 p ra x (by simp)) with hF|jD
     ·exact absurd rfl (Li.xY hi hF (fW.1 vF).1 p (by simp [ra]))
     ·exact Mu jD
    have h2:=Jz C x A2 A1 ⟨η,H,a,w,D⟩ FA hL W hA h
    obtain ⟨s1,h3,h4⟩:=tQ.1 h2
    have mB:(A1++x :: A2).Perm (x :: (A1++A2)):=IV
    have gk:x.2.1∈ops.toList:=Array.mem_toList_iff.2 (xB ju)
    have KP:=FA.out gk (hL x (by simp)) (λf S h=>(C.sp f S h).lr) h3
    have W':=(W.perm mB).tail h3
    have lW:x.1 < i0:=DZ x (by simp)
    have VR:∀y∈R,x.1≠y.1:=λy hy e=>by have:=vx y hy;omega
    have apN:∀y∈R,wz X y.2.1=true->∀d,y.2.1.dst=some d->s1.t[d]?=some .any:=by
     intro y hy hf d hd
     refine amD h3 (Ut y hy hf d hd) λhxd=>?_
     rcases B.back y.1 y.2.1 (vx y hy) (by simpa using xa y hy) with hF|⟨_,d',kM,dg⟩
     ·obtain ⟨e,i,PG,Fl⟩:=Sm hf
      exact QJ Fl (by simpa using xa y hy) _ hF
     ·rw [hd] at kM
      simp at kM
      subst kM
      exact dg x.1 x.2.1 (by simpa using ju) (VR y hy) hxd
    have my:=I5 C D ju (λha=>W.un x (by simp) ha) (W.store x (by simp)) h3 (Q:=Q) (K:=λa' w'=>∃η' H',Den f1 s1 η' H' a' w') λη' H' a' w' D'=>⟨η',H',D'⟩
    unfold wpOp at my
    unfold wpOpIn
    rw [ju] at my ⊢
    simp only at my ⊢
    have fin:∀a' w',(∃η' H',Den f1 s1 η' H' a' w')->(∀d,x.2.1.dst≠some d->a'.tmps[d]?=a.tmps[d]?)->wpAnyIn F 0 P .any ops Q n (cN.setIfInBounds x.1 true) a' w':=by
     rintro a' w' ⟨η',H',D'⟩ TP
     refine ih (A1++A2) E R' (by simp at hn ⊢;omega) (λy hy=>DZ y (mB.mem_iff.2 (by simp only [cV];exact .inr hy))) W' KP (λy hy=>hL y (mB.mem_iff.2 (by simp only [cV];exact .inr hy))) rj vI EB apN (by simpa using vJ)
      (hp.GK λy hy d hd=>TP d (Uu x ju (λz hz e=>by have:=vx z (vI z hz);omega) y hy d hd)) D' h4
    by_cases hw:Region.wanted x.2.1 (yielded ops a.tmps)=true
    ·rw [if_pos hw] at my ⊢
     rcases my with my|my
     ·have gC:wy x.2.1.op=false:=by
       have:=jo.1 hs x.2.1 gk
       cases cH:sL x.2.1.op
       ·rw [cH] at this;simpa using this
       ·cases fC:x.2.1.op<;>rw [fC] at cH<;>first|rfl|cases cH
      exact Oper.wpIn_mono (λa' w' hq=>fin a' w' hq.1 hq.2) (Yv (zg RR gC my))
     ·exact absurd my.2 hQ
    ·rw [if_neg hw] at my ⊢
     exact ⟨λg _=>RR.fn g,fin _ _ my λd hd=>AT a x.2.1.dst _ d hd⟩
   ·rcases cV.1 w8 with rfl|w8
    ·
     have BX:A=[]:=by
      cases A with
      | nil=>rfl
      | cons y A =>
       exfalso
       have:=B.xY y.1 (DZ y (by simp))
       rw [<-dV] at this
       exact Li.xY hi this (fW.1 (W.get y (by simp))).1 y (by simp) rfl
     subst BX
     have vJ:=oS.step (A:=[]) (B:=R') (by simpa using Li) hi
     have h1:w7 X call f.sS x.2.1 0 s k1:=h
     have gC:wy x.2.1.op=false:=by rw [OL,hcd]
     unfold wpOpIn
     rw [w9]
     simp only
     rw [if_pos (by rw [OL];simp [Region.wanted,hcg])]
     refine Oper.wpIn_mono (λa' w' hq=>?_) (Yv (FU C I CO RR (s:=s) D (l:=0) (by intro ha;rw [OL,VP] at ha;cases ha) (by intro ha;rw [OL,fS] at ha;cases ha) gC (by rw [hp.sS];exact h1) (Q:=Q) (K:=λa' w'=>∃s2 η' H',Den f1 s2 η' H' a' w'/\k1 s2) λs' η' H' a' w' D' gQ=>⟨s',η',H',D',gQ⟩))
     obtain ⟨⟨s2,η2,H2,D2,rm⟩,TP⟩:=hq
     obtain ⟨Ks2,W2,VS,VT,h2⟩:=jd s2 rm
     have nY:n=R'.length:=by simp at hn;omega
     rw [nY]
     exact ale C RR O hs hQ hk (hp.GK λy hy d hd=>TP d (Uu x w9 (λz hz e=>by have:=vx z (vI z hz);omega) y hy d hd)) D2 W2 VS VT apM vI EB h2 rj (by simpa using vJ)
    ·
     obtain ⟨OM,hxE⟩:=(rj x).1 w8
     have ju:=xa x OM
     have hnF:¬nQ ops.toList i0 x.1:=λhF=>Li.xY hi hF (by rw [<-dV];exact (fW.1 w9).1) hh (by simp) dV
     rcases B.back x.1 x.2.1 (vx x OM) (by simpa using ju) with hF|⟨hf,d,hd,dg⟩
     ·exact absurd hF hnF
     obtain ⟨e,ti,d',Fl⟩:=Sm hf
     have:d'=d:=by have:=Fl.dst;rw [hd] at this;simpa using this.symm
     subst this
     have ht:=Ut x OM hf d' hd
     obtain ⟨R1,R2,rfl⟩:=FI w8
     have vJ:=oS.step (A:=A++hh :: R1) (B:=R2) (by simpa using Li) hi
     unfold wpOpIn
     rw [ju]
     simp only
     rw [if_pos (by simp [Region.wanted,Fl.guard])]
     refine D.early C Fl (.inl ht) RR λbl a' w' b1 b2 b3 b4 D'=>?_
     have fv:d' < a.tmps.size:=by
      have h1:a.tmps.toList.length=s.t.length:=jn D.t
      have h2:d' < s.t.length:=(bt.1 ht).1
      rw [wm] at h1
      rw [h1];exact h2
     have ra:ui X a' f (x :: E) (f1.Bv bl (.cells ti.zero.cells e (0,0))):=.cons (hp.GK λy hy PG arx=>b4 PG λe=>Uu x ju hxE y hy PG arx (by rw [hd,e])) Fl b1 b2 (b3 fv)
     have aAK:(R1++x :: R2).Nodup:=(fH.1 (j8.1 Li.inc).2.1).2.imp λh e=>by rw [e] at h;omega
     have apO:=(fH.1 (j8.1 Li.inc).2.1).2
     have ab7:=j8.1 apO
     refine ih A (x :: E) (R1++R2) (by simp at hn ⊢;omega) DZ W FA hL (λy=>?_) (λy hy=>?_) (fH.2 ⟨λy hy e=>hxE y hy e.symm,EB⟩) Ut (by simpa using vJ) ra D' h
     ·constructor
      ·intro hy
       have oC:y∈R1++x :: R2:=by
        rcases dR.1 hy with h|h
        ·exact wj _ h
        ·exact AO _ (rH _ h)
       obtain ⟨c1,c2⟩:=(rj y).1 oC
       refine ⟨c1,λz hz=>?_⟩
       rcases cV.1 hz with rfl|hz
       ·rcases dR.1 hy with h|h
        ·have:=ab7.2.2 y h z (by simp);omega
        ·have:=(fH.1 ab7.2.1).1 y h;omega
       ·exact c2 z hz
      ·rintro ⟨c1,c2⟩
       have:=(rj y).2 ⟨c1,λz hz=>c2 z (by simp [hz])⟩
       rcases dR.1 this with h|h
       ·exact wj _ h
       ·rcases cV.1 h with rfl|h
        ·exact absurd rfl (c2 y (by simp))
        ·exact AO _ h
     ·rcases cV.1 hy with rfl|hy
      ·exact OM
      ·exact vI y hy
theorem alf {q:Nat->Live} {t:List SV} {vs:List Value} (h:aQ η q H t vs) (d:Nat):aQ η q H (t.set d .any) vs:=by
 have hl:=jn h
 by_cases hd:d < vs.length
 ·have h1:=yT h d (x:=.any) (u:=vs[d]) (by simp only [rel])
  have e:vs.set d vs[d]=vs:=by
   refine qO λj=>?_
   rw [gY]
   split
   ·rename_i hj;subst hj;simp [hd]
   ·rfl
  rwa [e] at h1
 ·rw [YS (by omega)];exact h
theorem RS {q:Nat->Live} {vs:List Value}:∀(ds:List Nat) {t:List SV},aQ η q H t vs->aQ η q H (mb ds t) vs
 | [],_,h=>h
 | d :: r,_,h=>RS r (alf h d)
theorem Zg:∀(ds:List Nat) {t:List SV} {d:Nat},t[d]?=some .any->(mb ds t)[d]?=some .any
 | [],_,_,h=>h
 | d' :: r,t,d,h=>by
  rw [mb]
  refine Zg r ?_
  rw [gY]
  split
  ·rename_i e;subst e
   have:=(bt.1 h).1
   simp [this]
  ·exact h
theorem Sn:∀(ds:List Nat) {t:List SV} {d:Nat},d∈ds->d < t.length->(mb ds t)[d]?=some .any
 | [],_,_,h,_=>by cases h
 | d' :: r,t,d,h,hl=>by
  rw [mb]
  by_cases e:d=d'
  ·subst e
   exact Zg r (by rw [qc hl])
  ·rcases cV.1 h with h|h
   ·exact absurd h e
   ·exact Sn r h (by simpa using hl)
theorem Yw:∀{ops:List Oper} {o:Oper} {d:Nat},o∈ops->wz X o=true->o.dst=some d->d∈Gi X ops
 | [],_,_,h,_,_=>by cases h
 | x :: r,o,d,h,hf,hd=>by
  unfold Gi
  rcases cV.1 h with rfl|h
  ·rw [hf,hd];simp
  ·have:=Yw h hf hd
   split
   ·exact rH _ this
   ·exact this
theorem RT:∀{lb:List (Oper × Nat)} {b:List Slot},DH lb b=true->∀x∈lb,gu x.1.op=true->b[x.2]?=some .un
 | [],_,_,x,hx,_=>by cases hx
 | (o,l) :: r,b,h,x,hx,ha=>by
  simp only [DH,cQ] at h
  rcases cV.1 hx with rfl|hx
  ·have h1:=h.1
   rw [ha] at h1
   simp only at h1
   split at h1
   ·assumption
   ·cases h1
  ·exact RT h.2 x hx ha
theorem MY {ops:List Oper} {n:Nat} (s:St):∀y∈items ops n,vk ops (rN ops (e9 ops n) s) y.2.1 y.2.2:=by
 intro y hy t A ht hn ri hA
 have hm:y.2∈e9 ops n:=by rw [<-yW];exact IQ hy
 refine IB hA ?_
 unfold Du
 refine AO _ (FH.2 ⟨y.2,hm,?_⟩)
 rw [RP.2 ht,hn,ri]
 rfl
theorem ajE (C:X.Ok P) (I:nO X) {call:pK} (CO:xJ P X call) {r:Bool} {F:Fence} (RR:RF r F) {id:Nat} {ops:Array Oper} (hs:u9 ops.toList=true) (hd:Jn ops.toList=true) {i:Nat} (hb:Oc X ops.toList i=true) {Q:Exit->Act->World->Prop} {k:St->Prop}
  (hk:∀s' η' H' a' w',Den f s' η' H' a' w'->k s'->Q .normal a' w') (D:Den f s η H a w) (h:Us X call f.sS ops.toList i s k):(Code.region id ops true).wpIn F 0 P Q a w:=by
 refine wpIn_mono (Q:=vG (Q .normal)) ?_ (λe a' w' h=>by cases e<;>first|exact h|exact h.elim)
 have hk:∀s' η' H' a' w',Den f s' η' H' a' w'->k s'->vG (Q .normal) .normal a' w':=hk
 have O:=XT hd
 have B:=ajD hb
 unfold Us at h
 split at h
 ·exact h.elim
 rename_i fC ho
 split at h
 ·exact h.elim
 rename_i GR
 simp only [cQ] at GR
 obtain ⟨GR,jZ⟩:=GR
 let n:=s.b.length
 let s0:St:={ Bn X ops.toList i s with b:=s.b++jY (qn ops.toList) }
 have D0:Den f (Bn X ops.toList i s) η H a w:={ D with t:=RS _ D.t }
 have D1:=D0.ext (qn ops.toList)
 have D2:Den f s0 η H a { w with drawn:=w.drawn+1 }:=D1.grown (Ml w none)
 have W:lP ops s0 (items ops.toList n):=QX hs (Bn X ops.toList i s)
 have hlen:(items ops.toList n).length=ops.size:=by
  have:=congrArg List.length (uX ops.toList n)
  simpa using this
 have D7:i < ops.size:=by
  have:=(bt.1 ho).1
  simpa using this
 have gB:items ops.toList n=(items ops.toList n).take i++(items ops.toList n)[i]'(by rw [hlen];exact D7) :: (items ops.toList n).drop (i+1):=by
  rw [YV,List.take_append_drop]
 have DY:∀(j:Nat) (x:Nat × Oper × Nat),(items ops.toList n)[j]?=some x->x.1=j/\ops[j]?=some x.2.1/\(e9 ops.toList n)[j]?=some x.2:=by
  intro j x hx
  have h1:=W.get x (cB hx)
  have h2:((items ops.toList n).map (·.1))[j]?=some x.1:=by rw [mq,hx];rfl
  rw [uX,MI (by
   have:=(bt.1 hx).1
   rw [hlen] at this;simpa using this)] at h2
  simp at h2
  have h3:(ol (items ops.toList n))[j]?=some x.2:=by unfold ol;rw [mq,hx];rfl
  rw [yW] at h3
  exact ⟨h2.symm,by rw [h2];exact h1,h3⟩
 have KR:(items ops.toList n)[i]?=some ((items ops.toList n)[i]'(by rw [hlen];exact D7)):=eI _
 generalize (items ops.toList n)[i]'(by rw [hlen];exact D7)=hh at gB KR
 obtain ⟨Ht,PH,_⟩:=DY i hh KR
 have ON:hh.2.1=fC:=by
  have:ops[i]?=some fC:=by simpa using ho
  rw [PH] at this;simpa using this
 have inc:(items ops.toList n).Pairwise (λx y=>x.1 < y.1):=by
  have h2:((items ops.toList n).map (·.1)).Pairwise (· < ·):=by rw [uX];exact C6
  rw [rJ] at h2
  exact h2
 have J3:=inc
 rw [gB] at J3
 have GS:=j8.1 J3
 have VU:ol ((items ops.toList n).take i)=(e9 ops.toList n).take i:=by unfold ol;rw [List.map_take];show (ol (items ops.toList n)).take i=_;rw [yW]
 have KS:ol ((items ops.toList n).drop (i+1))=(e9 ops.toList n).drop (i+1):=by unfold ol;rw [List.map_drop];show (ol (items ops.toList n)).drop (i+1)=_;rw [yW]
 have FA:qv ops.toList (rN ops.toList (e9 ops.toList n) (Bn X ops.toList i s)) s0 :=
  ⟨λt A hA l hl=>by
   have hl:iz (Bn X ops.toList i s) t=some l:=hl
   exact IB hA (by simp [Du,hl]),MX,Jo GR⟩
 have vx:∀y∈(items ops.toList n).drop (i+1),i < y.1:=λy hy=>by rw [<-Ht];exact (fH.1 GS.2.1).1 y hy
 refine wpIn_region_any C.mixed ?_
 refine aki C I CO RR O B hs Jp hk (k1:=λs2=>match DH ((e9 ops.toList s.b.length).drop (i+1)) s2.b&&Bs ops.toList (rN ops.toList (e9 ops.toList s.b.length) s2) ops.toList with
    | true=>km X ops.toList ((e9 ops.toList s.b.length).drop (i+1)) s2 k
    | false=>False) Ht (by rw [Ht];exact PH) (R:=(items ops.toList n).drop (i+1)) (fH.1 GS.2.1).2 vx
  (λy hy=>W.get y (tV hy)) (λs2 rm=>?_) ops.size ((items ops.toList n).take i) [] ((items ops.toList n).drop (i+1)) ?_ (λy hy=>by have:=GS.2.2 y hy hh (by simp);omega) (W.sub (List.take_sublist _ _)) FA
  (λy hy=>MY (Bn X ops.toList i s) y (tU hy)) (λy=>by simp) (λx hx=>by cases hx) List.Pairwise.nil (λy hy hf d hd=>?_) ⟨?_,?_,?_,?_⟩ .nil D2 ?_
 ·split at rm
  ·rename_i hq
   simp only [cQ] at hq
   refine ⟨rN ops.toList (e9 ops.toList n) s2,⟨λx hx=>W.get x (tV hx),λx hx=>W.store x (tV hx),λx hx ha=>?_,W.ji.sublist (MN _ _)⟩,
    ⟨λt A hA l hl=>IB hA (by simp [Du,hl]),MX,Jo hq.2⟩,λy hy=>MY s2 y (tV hy),by rw [KS];exact rm⟩
   refine RT hq.1 x.2 ?_ ha
   rw [<-KS]
   exact IQ hx
  ·exact rm.elim
 ·simp only [iw,tX,hlen];omega
 ·obtain ⟨j,hj⟩:=AN.1 hy
  rw [ky] at hj
  obtain ⟨e1,e2,_⟩:=DY _ _ hj
  have gk:y.2.1∈ops.toList.drop (i+1):=by
   refine cB (i:=j) ?_
   rw [ky]
   simpa using e2
  have Hu:=Yw gk hf hd
  have ary:=jo.1 jZ d Hu
  exact Sn _ Hu (F3 ary)
 ·rw [<-gB];exact inc
 ·intro j hj
  rw [<-gB]
  have:(Array.replicate ops.size false).getD j true=false:=by simp [hj]
  simp only [this,true_iff]
  have hm:j∈(items ops.toList n).map (·.1):=by rw [uX];simpa using hj
  obtain ⟨x,hx,rfl⟩:=jS.1 hm
  exact ⟨x,hx,rfl⟩
 ·intro j
  by_cases hj:j < ops.size
  ·right;left;simp [hj]
  ·right;right;omega
 ·intro j o e ho hl
  exfalso
  by_cases hj:j < ops.size
  ·simp [hj] at hl
  ·simp [hj] at hl
 ·rw [VU,ON];exact h
end
def Still {α:Type} (P:Program) (m:Sem α):Prop:=∀w x w',m.run P w=.ok x w'->w'=w
section still
variable {P:Program}
theorem we {α:Type} (x:α):Still P (pure x:Sem α):=by
 intro w y w' h
 simp only [Sem.run_pure,Result.ok.injEq] at h
 exact h.2.symm
theorem tP {α β:Type} {m:Sem α} {f:α->Sem β} (h:Still P m) (h':∀x,Still P (f x)):Still P (m >>= f):=by
 intro w x w' e
 rw [Sem.run_bind] at e
 cases hm:m.run P w with
 | ok y w1 =>
  rw [hm] at e
  simp only [Result.andThen] at e
  obtain rfl:=h _ _ _ hm
  exact h' _ _ _ _ e
 | halt x w1=>rw [hm] at e;simp [Result.andThen] at e
theorem Fz {α:Type} (m:String):Still P (stuck m:Sem α):=by
 intro w y w' h;simp at h
theorem Yb {α:Type} (m:Unsupported):Still P (unsupported m:Sem α):=by
 intro w y w' h;simp at h
theorem Mj:Still P program:=by
 intro w y w' h;simp at h;exact h.2.symm
theorem Yc (r:Nat):Still P (shape r):=by
 intro w y w' h;simp at h;exact h.2.symm
theorem Yx (a:Addr) (m:Mode):Still P (load a m):=by
 intro w y w' h
 rw [run_load] at h
 split at h
 ·simp at h;exact h.2.symm
 ·split at h
  ·simp at h;exact h.2.symm
  ·simp at h
theorem ajF (t:TypeId):Still P (typeInfo t):=by
 unfold typeInfo
 refine tP Mj λp=>?_
 split
 ·exact we _
 ·exact Fz _
theorem Zh (t:TypeId):Still P (underlying t):=by
 unfold underlying
 refine tP Mj λp=>?_
 split
 ·exact we _
 ·exact Fz _
theorem aji (t:TypeId):Still P (isAgg t):=by
 unfold isAgg
 refine tP (Zh t) λp=>?_
 split<;>exact we _
theorem XV (t:TypeId):Still P (sizeOf t):=by
 unfold sizeOf
 exact tP (ajF t) λp=>we _
theorem Yd (a:Addr):∀(n i:Nat) (acc:Array Value),Still P (loadCellsFrom a i n acc)
 | 0,i,acc=>we _
 | n+1,i,acc=>tP (Yx _ _) λv=>Yd a n (i+1) _
theorem aiR (t:TypeId) (a:Addr):Still P (loadVar t a):=by
 unfold loadVar
 refine tP (aji t) λp=>?_
 split
 ·refine tP (XV t) λn=>tP ?_ λx=>we _
  exact Yd a n 0 #[]
 ·exact Yx a _
theorem Yy (v:Value):Still P (Instr.sureAddr v):=by
 unfold Instr.sureAddr
 split
 ·exact we _
 ·exact Fz _
theorem aiZ (t:TypeId) (v:Value):Still P (Instr.loadAt t v):=by
 unfold Instr.loadAt
 exact tP (Yy v) λa=>aiR t a
theorem ai0 (r:Nat):Still P (getObj r):=by
 intro w y w' h
 simp only [getObj,Sem.run] at h
 repeat' split at h
 all_goals first|(simp at h;exact h.2.symm)|simp at h
theorem ajG (a:Addr):Still P (noView a):=by
 unfold noView viewAt
 (repeat' first|exact ai0 _|exact we _|exact Fz _|exact Yb _|exact Yc _|exact Mj|refine tP ?_ λ_=>?_|split)
theorem ai1 (a:Addr):Still P (byteOf a):=by
 unfold byteOf
 (repeat' first|exact we _|exact Fz _|exact Yb _|exact Yc _|exact Mj|exact ajG _|refine tP ?_ λ_=>?_|split|dsimp only)
theorem ajj (a:Addr) (f:Field):Still P (fieldPlace a f):=by
 unfold fieldPlace partAt
 (repeat' first|exact we _|exact XV _|exact ai1 _|refine tP ?_ λ_=>?_|split)
theorem aiS (t:TypeId) (v:Value) (j:Nat):Still P (Instr.fieldAt t v j):=by
 unfold Instr.fieldAt
 (repeat' first|exact we _|exact Fz _|exact Zh _|exact Yy _|exact ajj _ _|refine tP ?_ λ_=>?_|split)
end still
def qV (o:Oper):Bool:=o.guard.isNone&&(o.dst.isSome&&match o.op with
 | .move _|.nilCheck _|.fieldAddr ..|.load ..=>true
 | _=>false)
section
variable {P:Program} {X:Ctx} {f f1:Fr} {s:St} {η:Nat->Value} {H:bB} {a a':Act} {w:World} {o:Oper}
theorem alg (C:X.Ok P) (D:Den f s η H a w) (hl:qV o=true) {ops:List Oper} {l:Nat} {s1:St} (h:Out X ops o l s s1):∃u η' H',Den f s1 η' H' (a.put o.dst u) w:=by
 unfold qV at hl
 simp only [cQ,Rb] at hl
 obtain ⟨hg,hd,fC⟩:=hl
 unfold Out wL at h
 rw [hg] at h
 obtain ⟨x,u,ho,e⟩:=h
 have hk:=(eN.N7 (eJ X s l o.op) (λx' u'=>x'=x/\u'=u)).2 ⟨x,u,ho,rfl,rfl⟩
 have hna:gu o.op=true->s.b[l]?=some .un:=by
  intro ha
  cases so:o.op<;>rw [so] at fC ha<;>first|(cases fC;done)|(simp [gu] at ha;done)
 have KH:sL o.op=true->o.dst=none:=by
  intro ha
  cases so:o.op<;>rw [so] at fC ha<;>first|(cases fC;done)|(simp [sL] at ha;done)
 obtain ⟨x',u',⟨rfl,rfl⟩,zN⟩:=RO (R:=λx' u'=>x'=x/\u'=u) C D (l:=l) hna KH hk
 have hw:=zN (λa' w'=>∃η' H',Den f s1 η' H' a' w') (λ_ _ _=>False) (λη' H' w' v D'=>⟨η',H',by rw [e];exact D'⟩)
 have anM:∀z w',(execOp a.eval o).run P w=.ok z w'->w'=w/\∃v,z=.value v:=by
  intro z w' hz
  have fin:∀m:Sem Value,Still P m->(do pure (.value (<-m)):Sem Next).run P w=.ok z w'->w'=w/\∃v,z=.value v:=by
   intro m hm hz
   rw [Sem.run_bind] at hz
   cases hr:m.run P w with
   | ok y w1 =>
    rw [hr] at hz
    simp only [Result.andThen,Sem.run_pure,Result.ok.injEq] at hz
    exact ⟨by rw [<-hz.2];exact hm _ _ _ hr,y,hz.1.symm⟩
   | halt y w1=>rw [hr] at hz;simp [Result.andThen] at hz
  cases so:o.op<;>rw [so] at fC<;>try (cases fC;done)
  case move x =>
   simp only [execOp,so,Sem.run_pure,Result.ok.injEq] at hz
   exact ⟨hz.2.symm,_,hz.1.symm⟩
  case load t x =>
   simp only [execOp,so] at hz
   exact fin _ (aiZ _ _) hz
  case fieldAddr t x j =>
   simp only [execOp,so] at hz
   exact fin _ (aiS _ _ _) hz
  case nilCheck x =>
   rw [so] at hk
   simp only [eJ] at hk
   have hx:=D.ev x
   have pt:(∃ad,a.eval x=.pointer (some ad))\/∃g fs cs,a.eval x=.func (.func g) fs cs:=by
    split at hk<;>first|exact hk.elim|skip
    ·rename_i l off e
     rw [e] at hx
     left
     simp only [rel] at hx
     split at hx
     ·exact hx.elim
     ·exact hx
     ·obtain ⟨bl,_,h⟩:=hx;exact ⟨_,h⟩
    ·rename_i cs off e
     rw [e] at hx
     left
     simp only [rel] at hx
     obtain ⟨ad,h,_⟩:=hx;exact ⟨_,h⟩
    ·rename_i g fs cs e
     rw [e] at hx
     right
     simp only [rel] at hx
     obtain ⟨us,vs,h,_⟩:=hx
     exact ⟨_,_,_,h⟩
   rcases pt with ⟨ad,hp⟩|⟨g,fs,cs,hp⟩
   ·simp only [execOp,so,hp,Sem.run_pure,Result.ok.injEq] at hz
    exact ⟨hz.2.symm,_,hz.1.symm⟩
   ·simp only [execOp,so,hp,Sem.run_pure,Result.ok.injEq] at hz
    exact ⟨hz.2.symm,_,hz.1.symm⟩
 unfold Oper.wp at hw
 cases hz:(execOp a.eval o).run P w with
 | ok z w' =>
  obtain ⟨rfl,v,rfl⟩:=anM z w' hz
  rw [hz] at hw
  obtain ⟨η',H',D'⟩:=hw
  exact ⟨v,η',H',D'⟩
 | halt z w'=>rw [hz] at hw;cases z<;>simp only [Oper.upon] at hw
theorem Mx (hl:qV o=true):gu o.op=false:=by
 unfold qV at hl
 simp only [cQ] at hl
 obtain ⟨_,_,fC⟩:=hl
 cases so:o.op<;>rw [so] at fC<;>first|(cases fC;done)|rfl
theorem alh (hl:qV o=true) (s:St) (l:Nat):eJ X s l o.op=eJ X s 0 o.op:=by
 unfold qV at hl
 simp only [cQ] at hl
 obtain ⟨_,_,fC⟩:=hl
 cases so:o.op<;>rw [so] at fC<;>first|(cases fC;done)|rfl
theorem aac (hl:qV o=true):∃d,o.dst=some d:=by
 unfold qV at hl
 simp only [cQ] at hl
 exact tR.1 hl.2.1
theorem ajH (hl:qV o=true):o.guard=none:=by
 unfold qV at hl
 simp only [cQ,Rb] at hl
 exact hl.1
structure xH (ds:List Tmp) (a b:Act):Prop where
 d:a.defers=b.defers
 z:a.tmps.size=b.tmps.size
 t:∀d,d∉ds->a.tmps[d]?=b.tmps[d]?
theorem xH.put {ds:List Tmp} {a b:Act} (h:xH ds a b) (dst:Option Tmp) (v:Value):xH ds (a.put dst v) (b.put dst v):=by
 cases dst with
 | none=>exact h
 | some d =>
  refine ⟨h.d,by simp [Act.put,h.z],λd' kM=>?_⟩
  simp only [Act.put,Array.getElem?_setIfInBounds]
  rw [h.t d' kM,h.z]
theorem xH.ev {ds:List Tmp} {a b:Act} (h:xH ds a b) {x:Operand} (hx:∀t,x=.tmp t->t∉ds):a.eval x=b.eval x:=by
 cases x with
 | tmp t =>
  have:=h.t t (hx t rfl)
  simp only [Act.eval,Ja,this]
 | _=>rfl
theorem akj {r:Bool} {F:Fence} (R:RF r F) {ds:List Tmp} {a b:Act} (hs:xH ds a b) {c:Call} {g:FuncId} (ho:o.op=.call c) (hc:c.callee=.value (.func g)) (hd:∀t∈lu o.op,t∉ds)
  {K K':Act->World->Prop} {Q:Exit->Act->World->Prop} (hQ:∀e a w,e≠.normal->¬Q e a w) (hQ':¬LetsOut Q) (hK:∀a1 b1 w',xH ds a1 b1->K b1 w'->K' a1 w') (h:o.wpIn F 0 P b w K Q):o.wpIn F 0 P a w K' Q:=by
 have KT:c.args.map a.eval=c.args.map b.eval:=Array.map_congr_left λx hx=>hs.ev λt ht=>hd t (by
  subst ht
  rw [ho]
  exact FH.2 ⟨.tmp t,by simpa [Op.operands] using Mq (Array.mem_toList_iff.2 hx),rfl⟩)
 have iI:resolve a.eval c o.type=resolve b.eval c o.type:=by
  unfold resolve
  rw [hc,KT]
  rfl
 have hex:o.semAt F.round a.eval=o.semAt F.round b.eval:=by
  rw [Oper.semAt_eq _ _ _ (λc' e=>by rw [ho] at e;cases e),Oper.semAt_eq _ _ _ (λc' e=>by rw [ho] at e;cases e)]
  unfold execOp
  rw [ho]
  simp only [iI]
 refine ⟨λf _=>R.fn f,?_⟩
 have h2:=h.2
 rw [hex]
 generalize (o.semAt F.round b.eval).run P w=z at *
 cases z with
 | ok x w' =>
  cases x<;>simp only [Oper.uponIn] at h2 ⊢
  case value v=>exact hK _ _ _ (hs.put _ _) h2
  case skip=>exact hK _ _ _ (hs.put _ _) h2
  case defer dd=>exact hK _ _ _ (xH.put (a:={ a with defers:=dd :: a.defers }) (b:={ b with defers:=dd :: b.defers }) ⟨by simp [hs.d],hs.z,hs.t⟩ _ _) h2
  case enter=>exact ⟨h2.1,CallsIn.mono h2.2 λe KN he=>by cases e<;>first|exact hK _ _ _ (hs.put _ _) he|exact absurd he (hQ _ _ _ (by simp))|exact he⟩
  case row=>exact ⟨h2.1,RowsIn.mono h2.2 λv KN he=>hK _ _ _ (hs.put _ _) he⟩
  case round=>exact ⟨h2.1,RoundIn.mono h2.2 λe KN he=>by cases e<;>first|exact hK _ _ _ (hs.put _ _) he|exact absurd he (hQ _ _ _ (by simp))|exact he⟩
  all_goals exact h2
 | halt x w'=>cases x<;>simp only [Oper.uponIn] at h2 ⊢<;>first|exact h2|exact absurd h2 (hQ _ _ _ (by simp))
theorem aad {q:Nat->Live}:∀{t:List SV} {vs nW:List Value},aQ η q H t vs->vs.length=nW.length->(∀d:Nat,t[d]?=some .any\/vs[d]?=nW[d]?)->aQ η q H t nW
 | [],vs,nW,h,hl,_=>by
  simp only [aQ] at h ⊢
  subst h
  cases nW with
  | nil=>rfl
  | cons=>simp at hl
 | x :: r,vs,nW,h,hl,hd=>by
  simp only [aQ] at h ⊢
  obtain ⟨v,vs1,rfl,h1,h2⟩:=h
  cases nW with
  | nil=>simp at hl
  | cons v' arz =>
   refine ⟨v',arz,rfl,?_,aad h2 (by simpa using hl) λd=>by simpa using hd (d+1)⟩
   rcases hd 0 with h|h
   ·simp at h;subst h;simp only [rel]
   ·simp at h;subst h;exact h1
theorem abc:∀(ds:List Nat) {t:List SV} {d:Nat},d∉ds->(mb ds t)[d]?=t[d]?
 | [],_,_,_=>rfl
 | d' :: r,t,d,h=>by
  rw [mb,abc r (λh'=>h (by simp [h'])),ig (λe=>h (by simp [e]))]
theorem abd:∀(ds:List Nat) {t:List SV} {d:Nat},(mb ds t)[d]?=some .any\/(mb ds t)[d]?=t[d]?
 | [],_,_=>.inr rfl
 | d' :: r,t,d=>by
  rw [mb]
  rcases abd r (t:=t.set d' .any) (d:=d) with h|h
  ·exact .inl h
  ·rw [h,gY]
   split
   ·split
    ·exact .inl rfl
    ·right;rename_i e hn;subst e;simp at hn ⊢;exact hn
   ·exact .inr rfl
theorem aae:∀(ds:List Nat) {t:List SV} {d:Nat} {v:SV},d∉ds->(mb ds t).set d v=mb ds (t.set d v)
 | [],_,_,_,_=>rfl
 | d' :: r,t,d,v,h=>by
  rw [mb,mb,aae r (λh'=>h (by simp [h'])),RJ _ _ (λe=>h (by simp [e]))]
theorem Den.but {ds:List Tmp} {a b:Act} (D:Den f s η H b w) (h:xH ds a b):Den f ⟨mb ds s.t,s.b⟩ η H a w:={ D with
 t:=by
  have h1:=RS ds D.t
  refine aad h1 (by simp [h.z]) λd=>?_
  by_cases hd:d∈ds
  ·by_cases hl:d < s.t.length
   ·exact .inl (Sn ds hd hl)
   ·right
    have h2:b.tmps.size=s.t.length:=by have:=jn D.t;simpa using this
    rw [nF (by simp [h2];omega),nF (by simp [h.z,h2];omega)]
  ·right
   have:=h.t d hd
   simpa using this.symm
 d:=by rw [h.d];exact D.d }
def qz:List (Nat × Oper × Nat)->List Tmp
 | []=>[]
 | x :: r=>match x.2.1.dst with
  | some d=>d :: qz r
  | none=>qz r
theorem Ji:∀{L:List (Nat × Oper × Nat)} {d:Tmp},d∈qz L↔∃x∈L,x.2.1.dst=some d
 | [],d=>by simp [qz]
 | x :: r,d=>by
  unfold qz
  split
  ·rename_i d' kM
   rw [cV,Ji]
   constructor
   ·rintro (rfl|⟨y,hy,h⟩)
    ·exact ⟨x,by simp,kM⟩
    ·exact ⟨y,by simp [hy],h⟩
   ·rintro ⟨y,hy,h⟩
    rcases cV.1 hy with rfl|hy
    ·rw [kM] at h;simp at h;exact .inl h.symm
    ·exact .inr ⟨y,hy,h⟩
  ·rename_i kM
   rw [Ji]
   constructor
   ·rintro ⟨y,hy,h⟩;exact ⟨y,by simp [hy],h⟩
   ·rintro ⟨y,hy,h⟩
    rcases cV.1 hy with rfl|hy
    ·rw [kM] at h;cases h
    ·exact ⟨y,hy,h⟩
def J4 (X:Ctx) (s:St) (o:Oper):Prop:=match o.dst with
 | some d=>match eJ X s 0 o.op with
  | .pure v []=>s.t[d]?=some v
  | _=>False
 | none=>False
def Od (X:Ctx):List Oper->St->Prop
 | [],_=>True
 | o :: r,s=>J4 X s o/\Od X r s
theorem Zi:∀{os:List Oper} {s:St},Od X os s->∀o∈os,J4 X s o
 | [],_,_,o,h=>by cases h
 | x :: r,s,h,o,ho=>by
  rcases cV.1 ho with rfl|ho
  ·exact h.1
  ·exact Zi h.2 o ho
theorem aaf (C:X.Ok P) {ops:Array Oper} {k:St->Prop}:∀(A:List (Nat × Oper × Nat)) {s:St} {η:Nat->Value} {H:bB} {a:Act},(∀x∈A,qV x.2.1=true)->Den f s η H a w->km X ops.toList (ol A) s k ->
  ∃s1 a1 η1 H1,Den f s1 η1 H1 a1 w/\k s1/\xH (qz A) a a1
 | [],s,η,H,a,_,D,h=>⟨s,a,η,H,D,h,⟨rfl,rfl,λ_ _=>rfl⟩⟩
 | x :: A,s,η,H,a,hl,D,h=>by
  obtain ⟨s1,h1,h2⟩:=tQ.1 h
  obtain ⟨u,η1,H1,D1⟩:=alg C D (hl x (by simp)) h1
  obtain ⟨s2,a2,η2,H2,D2,hk,hs⟩:=aaf C A (λy hy=>hl y (by simp [hy])) D1 h2
  refine ⟨s2,a2,η2,H2,D2,hk,?_⟩
  obtain ⟨d,hd⟩:=aac (hl x (by simp))
  have zK:qz (x :: A)=d :: qz A:=by simp only [qz,hd]
  rw [hd] at hs
  refine ⟨by rw [<-hs.d];rfl,by rw [<-hs.z];simp [Act.put],λt ht=>?_⟩
  rw [zK] at ht
  rw [<-hs.t t (λh=>ht (by simp [h]))]
  simp only [Act.put]
  rw [Q9 (λe=>ht (by simp [e]))]
theorem Ye {ops:List Oper} {k:St->Prop}:∀(L1:List (Oper × Nat)) {L2:List (Oper × Nat)} {s:St},km X ops L1 s (λs1=>km X ops L2 s1 k)->km X ops (L1++L2) s k
 | [],_,_,h=>h
 | x :: L1,L2,s,h=>by
  obtain ⟨s1,h1,h2⟩:=tQ.1 h
  exact tQ.2 ⟨s1,h1,Ye L1 h2⟩
theorem Yz {ops:List Oper} {k:St->Prop} {s:St}:∀(A:List (Nat × Oper × Nat)),(∀x∈A,qV x.2.1=true/\J4 X s x.2.1)->(∀x∈A,∀d,x.2.1.dst=some d->d∉lu x.2.1.op) ->
  A.Pairwise (λx y=>∀d,y.2.1.dst=some d->d∉lu x.2.1.op/\x.2.1.dst≠some d)->k s->km X ops (ol A) ⟨mb (qz A) s.t,s.b⟩ k
 | [],_,_,_,h=>h
 | x :: A,hl,ue,hp,h=>by
  rw [fH] at hp
  obtain ⟨iW,cH⟩:=hl x (by simp)
  obtain ⟨d,hd⟩:=aac iW
  have zK:qz (x :: A)=d :: qz A:=by simp only [qz,hd]
  have gC:d∉qz A:=λhm=>by
   obtain ⟨y,hy,EC⟩:=Ji.1 hm
   exact (hp.1 y hy d EC).2 hd
  unfold J4 at cH
  rw [hd] at cH
  simp only at cH
  split at cH<;>try exact cH.elim
  rename_i v hv
  rw [zK]
  refine tQ.2 ⟨⟨mb (qz A) s.t,s.b⟩,?_,Yz A (λy hy=>hl y (by simp [hy])) (λy hy=>ue y (by simp [hy])) hp.2 h⟩
  unfold Out wL
  rw [ajH iW]
  refine ⟨v,[],?_,?_⟩
  ·rw [alh iW,XP X (s:=⟨mb (d :: qz A) s.t,s.b⟩) (s':=s) 0 x.2.1.op (λt ht=>?_) rfl,hv]
   ·exact ⟨rfl,rfl⟩
   ·refine abc _ λhm=>?_
    rcases cV.1 hm with rfl|hm
    ·exact ue x (by simp) _ hd ht
    ·obtain ⟨y,hy,EC⟩:=Ji.1 hm
     exact (hp.1 y hy t EC).1 ht
  ·unfold St.jJ
   rw [hd]
   simp only [l8]
   rw [mb,aae _ gC,List.set_set,M7 _ _ _ cH]
def Gb (ops:List Oper) (i:Nat):List Oper:=((ops.take i).zipIdx.filter λp=>!((Bm ops []).getD i 0).testBit p.2).map (·.1)
def ab8 (ops:List Oper) (h p:Oper) (j:Nat):Bool:=qV p&&match p.dst with
 | some d=>!(lu h.op).contains d&&(!(lu p.op).contains d&&(ops.take j).all λq=>!(lu q.op).contains d&&q.dst != some d)
 | none=>false
def NH (ops:List Oper) (i:Nat):Bool:=match ops[i]? with
 | some h=>h.guard.isNone&&((match h.op with
  | .call c=>match c.callee with
   | .value (.func _)=>true
   | _=>false
  | _=>false)&&(((ops.take i).zipIdx.all λp=>((Bm ops []).getD i 0).testBit p.2||ab8 ops h p.1 p.2) &&
   ((ops.drop (i+1)).zipIdx.all λp=>((Bm ops []).getD (i+1+p.2) 0).testBit i)))
 | none=>false
structure aez (ops:List Oper) (i:Nat) (h:Oper):Prop where
 at_:ops[i]?=some h
 guard:h.guard=none
 call:∃c g,h.op=.call c/\c.callee=.value (.func g)
 xY:∀j p,j < i->ops[j]?=some p->nQ ops j i\/(qV p=true/\p∈Gb ops i/\∀d,p.dst=some d->d∉lu h.op/\d∉lu p.op/\∀j' q,j' < j->ops[j']?=some q->d∉lu q.op/\q.dst≠some d)
 back:∀j o,i < j->ops[j]?=some o->nQ ops i j
theorem ajk {ops:List Oper} {i:Nat} (h:NH ops i=true):∃o,aez ops i o:=by
 have hm:=QY ops ops [] [] rfl rfl (λi j h=>by simp at h)
 unfold NH at h
 split at h
 ·rename_i o ho
  simp only [cQ,Rb] at h
  obtain ⟨h1,h2,h3,h4⟩:=h
  refine ⟨o,ho,h1,?_,λj p hj hp=>?_,λj q hj hq=>?_⟩
  ·split at h2
   ·rename_i c hc
    split at h2
    ·rename_i g hg;exact ⟨c,g,hc,hg⟩
    ·cases h2
   ·cases h2
  ·have gk:(p,j)∈(ops.take i).zipIdx:=by
    rw [FY,YT hj]
    exact hp
   have:=jo.1 h3 (p,j) gk
   simp only [px] at this
   cases hb:((Bm ops []).getD i 0).testBit j with
   | true=>exact .inl (hm i j hb)
   | false =>
    right
    rcases this with h|h
    ·rw [hb] at h;cases h
    unfold ab8 at h
    simp only [cQ] at h
    refine ⟨h.1,?_,λd hd=>?_⟩
    ·unfold Gb
     exact jS.2 ⟨(p,j),mW.2 ⟨gk,by simp only [hb];rfl⟩,rfl⟩
    ·have h5:=h.2
     rw [hd] at h5
     simp only [cQ] at h5
     refine ⟨by simpa using h5.1,by simpa using h5.2.1,λj' q wZ hq=>?_⟩
     have h6:=jo.1 h5.2.2 q (by
      refine cB (i:=j') ?_
      rw [YT wZ];exact hq)
     simp only [cQ] at h6
     exact ⟨by simpa using h6.1,by simpa using h6.2⟩
  ·have gk:(q,j - (i+1))∈(ops.drop (i+1)).zipIdx:=by
    rw [FY,ky,show i+1+(j - (i+1))=j by omega]
    exact hq
   have:=jo.1 h4 _ gk
   simp only at this
   rw [show i+1+(j - (i+1))=j by omega] at this
   exact hm j i this
 ·cases h
def TQ (X:Ctx) (call:pK) (S:List SV) (ops:List Oper) (i:Nat) (s:St) (k:St->Prop):Prop:=match ops[i]? with
 | none=>False
 | some h=>match adl ops s with
  | false=>False
  | true=>km X ops ((e9 ops s.b.length).take i) { s with b:=s.b++jY (qn ops) } λs1 =>
   w7 X call S h 0 s1 λs2=>match DH ((e9 ops s.b.length).drop (i+1)) s2.b&&Bs ops (rN ops (e9 ops s.b.length) s2) ops with
    | true=>Od X (Gb ops i) s2/\km X ops ((e9 ops s.b.length).drop (i+1)) s2 k
    | false=>False
section
variable {P:Program} {X:Ctx} {f f1:Fr} {s:St} {η:Nat->Value} {H:bB} {a a':Act} {w:World} {o:Oper}
theorem ali {ds:List Nat} {s:St} {t:Tmp} {l:Nat} (h:iz ⟨mb ds s.t,s.b⟩ t=some l):iz s t=some l:=by
 unfold iz at h ⊢
 rcases abd ds (t:=s.t) (d:=t) with h1|h1
 ·simp only [h1,u5] at h
  cases h
 ·simpa only [h1] using h
theorem ajI (C:X.Ok P) (I:nO X) {call:pK} (CO:xJ P X call) {r:Bool} {F:Fence} (RR:RF r F) {ops:Array Oper} (O:Ordered ops.toList) {hh:Nat × Oper × Nat} (B:aez ops.toList hh.1 hh.2.1) (hs:u9 ops.toList=true) {Q0:Act->World->Prop} {k k1:St->Prop}
  (hk:∀s' η' H' a' w',Den f s' η' H' a' w'->k s'->vG Q0 .normal a' w') {R:List (Nat × Oper × Nat)} (vx:∀y∈R,hh.1 < y.1) (xa:∀y∈R,ops[y.1]?=some y.2.1)
  (jd:∀s2,k1 s2->∃Ks,lP ops s2 R/\(∀ds,qv ops.toList Ks ⟨mb ds s2.t,s2.b⟩)/\(∀y:Nat × Oper × Nat,ops[y.1]?=some y.2.1->qV y.2.1=true->vk ops.toList Ks y.2.1 y.2.2)/\(∀y∈R,vk ops.toList Ks y.2.1 y.2.2)/\(∀q∈Gb ops.toList hh.1,J4 X s2 q)/\km X ops.toList (ol R) s2 k) :
  ∀(n:Nat) (A:List (Nat × Oper × Nat)) {cN:Array Bool} {Ks:Tmp->List Nat} {s:St} {η:Nat->Value} {H:bB} {a:Act} {w:World},A.length+R.length+1=n->(∀y∈A,y.1 < hh.1)->lP ops s A->qv ops.toList Ks s->(∀y∈A,vk ops.toList Ks y.2.1 y.2.2) ->
   oS ops (A++hh :: R) cN->Den f s η H a w->km X ops.toList (ol A) s (λs1=>w7 X call f.sS hh.2.1 0 s1 k1)->wpAnyIn F 0 P .any ops (vG Q0) n cN a w:=by
 intro n
 induction n with
 | zero=>intro A _ _ _ _ _ _ _ hn;omega
 | succ n ih =>
  intro A cN Ks s η H a w hn DZ W FA hL Li D h
  have w9:ops[hh.1]?=some hh.2.1:=by simpa using B.at_
  have vr:∀y∈A++hh :: R,ops[y.1]?=some y.2.1:=by
   intro y hy
   rcases dR.1 hy with hy|hy
   ·exact W.get y hy
   ·rcases cV.1 hy with rfl|hy
    ·exact w9
    ·exact xa y hy
  constructor
  ·intro hr
   cases A with
   | nil =>
    have:=oS.first O Li w9
    rw [hr] at this;cases this
   | cons x A =>
    have:=oS.first O (L:=A++hh :: R) Li (W.get x (by simp))
    rw [hr] at this;cases this
  ·intro i hi
   obtain ⟨h0,o,ho,wF⟩:=mem_ready.1 hi
   have aP:=(fW.1 ho).1
   obtain ⟨x,hx,rfl⟩:=(Li.list i aP).1 h0
   rcases dR.1 hx with VQ|w8
   ·
    obtain ⟨A1,A2,rfl⟩:=FI VQ
    have ju:=W.get x (by simp)
    have vJ:=oS.step (A:=A1) (B:=A2++hh :: R) (by simpa using Li) hi
    have jH:=j8.1 (j8.1 Li.inc).1
    have hA:∀p∈A1,wE ops.toList p.2.1 x.2.1:=by
     intro p ra
     have vF:=W.get p (by simp [ra])
     rcases O.apart x.1 x.2.1 p.1 p.2.1 (by simpa using ju) (by simpa using vF) (jH.2.2 p ra x (by simp)) with hF|jD
     ·exact absurd rfl (Li.xY hi hF (fW.1 vF).1 p (by simp [ra]))
     ·exact Mu jD
    have h2:=Jz C x A2 A1 ⟨η,H,a,w,D⟩ FA hL W hA h
    obtain ⟨s1,h3,h4⟩:=tQ.1 h2
    have mB:(A1++x :: A2).Perm (x :: (A1++A2)):=IV
    have gk:x.2.1∈ops.toList:=Array.mem_toList_iff.2 (xB ju)
    have KP:=FA.out gk (hL x (by simp)) (λf S h=>(C.sp f S h).lr) h3
    have W':=(W.perm mB).tail h3
    have my:=I5 C D ju (λha=>W.un x (by simp) ha) (W.store x (by simp)) h3 (Q:=vG Q0) (K:=λa' w'=>∃η' H',Den f s1 η' H' a' w') λη' H' a' w' D'=>⟨η',H',D'⟩
    unfold wpOp at my
    unfold wpOpIn
    rw [ju] at my ⊢
    simp only at my ⊢
    have fin:∀a' w',(∃η' H',Den f s1 η' H' a' w')->wpAnyIn F 0 P .any ops (vG Q0) n (cN.setIfInBounds x.1 true) a' w':=by
     intro a' w' ⟨η',H',D'⟩
     exact ih (A1++A2) (by simp at hn ⊢;omega) (λy hy=>DZ y (mB.mem_iff.2 (by simp only [cV];exact .inr hy))) W' KP (λy hy=>hL y (mB.mem_iff.2 (by simp only [cV];exact .inr hy))) (by simpa using vJ) D' h4
    by_cases hw:Region.wanted x.2.1 (yielded ops a.tmps)=true
    ·rw [if_pos hw] at my ⊢
     rcases my with my|my
     ·have gC:wy x.2.1.op=false:=by
       have:=jo.1 hs x.2.1 gk
       cases cH:sL x.2.1.op
       ·rw [cH] at this;simpa using this
       ·cases fC:x.2.1.op<;>rw [fC] at cH<;>first|rfl|cases cH
      exact Oper.wpIn_mono (λa' w' hq=>fin a' w' hq) (zg RR gC my)
     ·exact absurd my.2 Jp
    ·rw [if_neg hw] at my ⊢
     exact ⟨λg _=>RR.fn g,fin _ _ my⟩
   ·rcases cV.1 w8 with rfl|w8
    ·
     have xR:∀y∈A,qV y.2.1=true/\y.2.1∈Gb ops.toList x.1/\∀d,y.2.1.dst=some d->d∉lu x.2.1.op/\d∉lu y.2.1.op/\∀j' q,j' < y.1->ops.toList[j']?=some q->d∉lu q.op/\q.dst≠some d:=by
      intro y hy
      rcases B.xY y.1 y.2.1 (DZ y hy) (by simpa using W.get y hy) with hF|h
      ·exact absurd rfl (Li.xY hi hF (fW.1 (W.get y hy)).1 y (by simp [hy]))
      ·exact h
     obtain ⟨s1,a1,η1,H1,D1,h1,apP⟩:=aaf C A (λy hy=>(xR y hy).1) D h
     obtain ⟨c,g,OO,KU⟩:=B.call
     have VP:gu x.2.1.op=false:=by
      rw [OO]
      cases c
      simp only at KU
      subst KU
      rfl
     have fS:sL x.2.1.op=false:=by rw [OO];rfl
     have gC:wy x.2.1.op=false:=by rw [OO];rfl
     have vJ:=oS.step (A:=A) (B:=R) Li hi
     unfold wpOpIn
     rw [w9]
     simp only
     rw [if_pos (by simp [Region.wanted,B.guard])]
     refine akj RR apP OO KU (λt ht hm=>?_) (K:=λa' w'=>∃s2 η' H',Den f s2 η' H' a' w'/\k1 s2) (λe a w he h=>by cases e<;>first|exact absurd rfl he|exact h) Jp (λa2 b2 w' gl hb=>?_)
      (FU C I CO RR (s:=s1) D1 (l:=0) (by intro ha;rw [VP] at ha;cases ha) (by intro ha;rw [fS] at ha;cases ha) gC h1 (Q:=vG Q0) (K:=λa' w'=>∃s2 η' H',Den f s2 η' H' a' w'/\k1 s2) λs' η' H' a' w' D' gQ=>⟨s',η',H',D',gQ⟩)
     ·obtain ⟨y,hy,EC⟩:=Ji.1 hm
      exact ((xR y hy).2.2 t EC).1 ht
     obtain ⟨s2,η2,H2,D2,rm⟩:=hb
     obtain ⟨Ks2,W2,VS,hL1,VT,cH,h2⟩:=jd s2 rm
     have D3:=D2.but gl
     have adu:=(j8.1 Li.inc).1
     have Pu:=Yz (X:=X) (ops:=ops.toList) (k:=λs3=>km X ops.toList (ol R) s3 k) (s:=s2) A (λy hy=>⟨(xR y hy).1,cH _ (xR y hy).2.1⟩) (λy hy d hd=>((xR y hy).2.2 d hd).2.1)
      (adu.imp_of_mem λ{p q} hp hq aP d hd=>((xR q hq).2.2 d hd).2.2 p.1 p.2.1 aP (by simpa using W.get p hp)) h2
     have arA:km X ops.toList (ol (A++R)) ⟨mb (qz A) s2.t,s2.b⟩ k:=by
      have:=Ye (ol A) Pu
      unfold ol at this ⊢
      rwa [qe]
     refine abb RR hs Jp _ _ _ _ ?_
     refine aa8 C O hk n (A++R) (by simp at hn ⊢;omega) ⟨λy hy=>?_,λy hy=>?_,λy hy ha=>?_,?_⟩ vJ.inc vJ.list vJ.all vJ.down (VS _) (λy hy=>?_) D3 arA
     ·rcases dR.1 hy with hy|hy
      ·exact W.get y hy
      ·exact xa y hy
     ·rcases dR.1 hy with hy|hy
      ·exact W.store y hy
      ·exact W2.store y hy
     ·rcases dR.1 hy with hy|hy
      ·rw [Mx (xR y hy).1] at ha;cases ha
      ·exact W2.un y hy ha
     ·refine j8.2 ⟨adu.imp_of_mem λ{p q} hp hq _ ha _=>?_,W2.ji,λp hp q hq ha _=>?_⟩
      ·rw [Mx (xR p hp).1] at ha;cases ha
      ·rw [Mx (xR p hp).1] at ha;cases ha
     ·rcases dR.1 hy with hy|hy
      ·exact hL1 y (W.get y hy) (xR y hy).1
      ·exact VT y hy
    ·
     have hF:=B.back x.1 x.2.1 (vx x w8) (by simpa using xa x w8)
     exact absurd rfl (Li.xY hi hF (fW.1 w9).1 hh (by simp))
theorem ajl (C:X.Ok P) (I:nO X) {call:pK} (CO:xJ P X call) {r:Bool} {F:Fence} (RR:RF r F) {id:Nat} {ops:Array Oper} (hs:u9 ops.toList=true) (hd:Jn ops.toList=true) {i:Nat} (hb:NH ops.toList i=true) {Q:Exit->Act->World->Prop} {k:St->Prop}
  (hk:∀s' η' H' a' w',Den f s' η' H' a' w'->k s'->Q .normal a' w') (D:Den f s η H a w) (h:TQ X call f.sS ops.toList i s k):(Code.region id ops true).wpIn F 0 P Q a w:=by
 refine wpIn_mono (Q:=vG (Q .normal)) ?_ (λe a' w' h=>by cases e<;>first|exact h|exact h.elim)
 have hk:∀s' η' H' a' w',Den f s' η' H' a' w'->k s'->vG (Q .normal) .normal a' w':=hk
 have O:=XT hd
 obtain ⟨fC,B⟩:=ajk hb
 unfold TQ at h
 rw [B.at_] at h
 simp only at h
 split at h
 ·exact h.elim
 rename_i GR
 let n:=s.b.length
 let s0:St:={ s with b:=s.b++jY (qn ops.toList) }
 have D1:=D.ext (qn ops.toList)
 have D2:Den f s0 η H a { w with drawn:=w.drawn+1 }:=D1.grown (Ml w none)
 have W:lP ops s0 (items ops.toList n):=QX hs s
 have hlen:(items ops.toList n).length=ops.size:=by
  have:=congrArg List.length (uX ops.toList n)
  simpa using this
 have D7:i < ops.size:=by
  have:=(bt.1 B.at_).1
  simpa using this
 have gB:items ops.toList n=(items ops.toList n).take i++(items ops.toList n)[i]'(by rw [hlen];exact D7) :: (items ops.toList n).drop (i+1):=by
  rw [YV,List.take_append_drop]
 have DY:∀(j:Nat) (x:Nat × Oper × Nat),(items ops.toList n)[j]?=some x->x.1=j/\ops[j]?=some x.2.1/\(e9 ops.toList n)[j]?=some x.2:=by
  intro j x hx
  have h1:=W.get x (cB hx)
  have h2:((items ops.toList n).map (·.1))[j]?=some x.1:=by rw [mq,hx];rfl
  rw [uX,MI (by
   have:=(bt.1 hx).1
   rw [hlen] at this;simpa using this)] at h2
  simp at h2
  have h3:(ol (items ops.toList n))[j]?=some x.2:=by unfold ol;rw [mq,hx];rfl
  rw [yW] at h3
  exact ⟨h2.symm,by rw [h2];exact h1,h3⟩
 have KR:(items ops.toList n)[i]?=some ((items ops.toList n)[i]'(by rw [hlen];exact D7)):=eI _
 generalize (items ops.toList n)[i]'(by rw [hlen];exact D7)=hh at gB KR
 obtain ⟨Ht,PH,_⟩:=DY i hh KR
 have ON:hh.2.1=fC:=by
  have:ops[i]?=some fC:=by simpa using B.at_
  rw [PH] at this;simpa using this
 have inc:(items ops.toList n).Pairwise (λx y=>x.1 < y.1):=by
  have h2:((items ops.toList n).map (·.1)).Pairwise (· < ·):=by rw [uX];exact C6
  rw [rJ] at h2
  exact h2
 have J3:=inc
 rw [gB] at J3
 have GS:=j8.1 J3
 have VU:ol ((items ops.toList n).take i)=(e9 ops.toList n).take i:=by unfold ol;rw [List.map_take];show (ol (items ops.toList n)).take i=_;rw [yW]
 have KS:ol ((items ops.toList n).drop (i+1))=(e9 ops.toList n).drop (i+1):=by unfold ol;rw [List.map_drop];show (ol (items ops.toList n)).drop (i+1)=_;rw [yW]
 have FA:qv ops.toList (rN ops.toList (e9 ops.toList n) s) s0 :=
  ⟨λt A hA l hl=>by
   have hl:iz s t=some l:=hl
   exact IB hA (by simp [Du,hl]),MX,Jo GR⟩
 have vx:∀y∈(items ops.toList n).drop (i+1),hh.1 < y.1:=λy hy=>(fH.1 GS.2.1).1 y hy
 refine wpIn_region_any C.mixed ?_
 refine ajI C I CO RR O (by rw [Ht,ON];exact B) hs hk (k1:=λs2=>match DH ((e9 ops.toList s.b.length).drop (i+1)) s2.b&&Bs ops.toList (rN ops.toList (e9 ops.toList s.b.length) s2) ops.toList with
    | true=>Od X (Gb ops.toList i) s2/\km X ops.toList ((e9 ops.toList s.b.length).drop (i+1)) s2 k
    | false=>False) (R:=(items ops.toList n).drop (i+1)) vx
  (λy hy=>W.get y (tV hy)) (λs2 rm=>?_) ops.size ((items ops.toList n).take i) ?_ (λy hy=>GS.2.2 y hy hh (by simp)) (W.sub (List.take_sublist _ _)) FA
  (λy hy=>MY s y (tU hy)) ⟨?_,?_,?_,?_⟩ D2 ?_
 ·split at rm
  ·rename_i hq
   simp only [cQ] at hq
   refine ⟨rN ops.toList (e9 ops.toList n) s2,⟨λx hx=>W.get x (tV hx),λx hx=>W.store x (tV hx),λx hx ha=>?_,W.ji.sublist (MN _ _)⟩,
    λds=>⟨λt A hA l hl=>IB hA (by simp [Du,ali hl]),MX,Jo hq.2⟩,λy hy hl t A _ _ ha _=>(by rw [Mx hl] at ha;cases ha),λy hy=>MY s2 y (tV hy),
    λq hq=>Zi rm.1 q (by rw [Ht] at hq;exact hq),by rw [KS];exact rm.2⟩
   refine RT hq.1 x.2 ?_ ha
   rw [<-KS]
   exact IQ hx
  ·exact rm.elim
 ·simp only [iw,tX,hlen];omega
 ·rw [<-gB];exact inc
 ·intro j hj
  rw [<-gB]
  have:(Array.replicate ops.size false).getD j true=false:=by simp [hj]
  simp only [this,true_iff]
  have hm:j∈(items ops.toList n).map (·.1):=by rw [uX];simpa using hj
  obtain ⟨x,hx,rfl⟩:=jS.1 hm
  exact ⟨x,hx,rfl⟩
 ·intro j
  by_cases hj:j < ops.size
  ·right;left;simp [hj]
  ·right;right;omega
 ·intro j o e ho hl
  exfalso
  by_cases hj:j < ops.size
  ·simp [hj] at hl
  ·simp [hj] at hl
 ·rw [VU,ON];exact h
end
end
end Go.Vc
