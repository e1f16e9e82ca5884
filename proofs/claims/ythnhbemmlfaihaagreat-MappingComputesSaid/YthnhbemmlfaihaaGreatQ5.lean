import Derived.Test.YthnhbemmlfaihaaGreatQ4
set_option linter.unusedVariables false
set_option linter.unusedSimpArgs false
set_option maxRecDepth 10000
set_option maxHeartbeats 64000000
namespace Go.Vc
open Go
def lu (op:Op):List Tmp:=op.operands.toList.filterMap λ|.tmp t=>some t|_=>none
def gT (ops:List Oper) (o:Oper):Option Tmp:=(wL ops o).bind (·.1)
def uB:Op->Bool
 | .load ..|.store ..|.indexAddr ..|.slice ..|.call _|.lookup ..|.mapUpdate ..|.insert ..|.entry _=>true
 | _=>false
def ZY:Op->Bool
 | .call c=>match c.callee with
  | .builtin .append=>true
  | .builtin .copy=>true
  | .builtin .clear=>true
  | _=>false
 | _=>false
def o7:Op->Bool
 | .store ..|.mapUpdate ..|.insert ..=>true
 | op=>ZY op
def deep:Op->Bool
 | .call c=>match c.callee with
  | .value _=>true
  | _=>false
 | _=>false
def tmpsOf (xs:List Operand):List Tmp:=xs.filterMap λ|.tmp t=>some t|_=>none
def AY:List Operand->Option Tmp
 | .tmp t :: _=>some t
 | _=>none
def kD:Op->Option Tmp
 | .store _ x _=>match x with|.tmp t=>some t|_=>none
 | .mapUpdate _ x _ _=>match x with|.tmp t=>some t|_=>none
 | .insert _ x _ _=>match x with|.tmp t=>some t|_=>none
 | .call c=>match c.callee with
  | .builtin .append=>AY c.args.toList
  | .builtin .copy=>AY c.args.toList
  | .builtin .clear=>AY c.args.toList
  | _=>none
 | _=>none
def gZ:Op->Option (List Tmp)
 | .load _ x=>match x with|.tmp t=>some [t]|_=>none
 | .store _ x _=>match x with|.tmp t=>some [t]|_=>none
 | .lookup _ x _ _=>match x with|.tmp t=>some [t]|_=>none
 | .entry x=>match x with|.tmp t=>some [t]|_=>none
 | .mapUpdate _ x _ _=>match x with|.tmp t=>some [t]|_=>none
 | .insert _ x _ _=>match x with|.tmp t=>some [t]|_=>none
 | .indexAddr _ x _=>match x with|.tmp t=>some [t]|_=>none
 | .slice _ x _ _ mx=>match x,mx with|.tmp t,none=>some [t]|_,_=>none
 | .call c=>match c.callee with
  | .builtin _=>some (tmpsOf c.args.toList)
  | _=>none
 | _=>none
theorem aje {xs:List Operand} {t:Tmp} (h:AY xs=some t):t∈tmpsOf xs:=by
 unfold AY at h
 split at h
 ·simp at h;subst h;simp [tmpsOf]
 ·cases h
theorem ZZ {op:Op} {t:Tmp} {ys:List Tmp} (h:kD op=some t) (h':gZ op=some ys):t∈ys:=by
 cases op<;>try (cases h;done)
 case store ty x z=>cases x<;>simp [kD] at h;subst h;simp [gZ] at h';subst h';simp
 case mapUpdate ty x y z=>cases x<;>simp [kD] at h;subst h;simp [gZ] at h';subst h';simp
 case insert ty x y z=>cases x<;>simp [kD] at h;subst h;simp [gZ] at h';subst h';simp
 case call c =>
  cases hc:c.callee with
  | value g=>simp [kD,hc] at h
  | invoke r m=>simp [kD,hc] at h
  | builtin b =>
   simp only [gZ,hc,rI] at h'
   subst h'
   cases b<;>simp [kD,hc] at h<;>exact aje h
def newVar:Op->Bool
 | .alloc _|.box ..|.buildSlice ..|.makeSlice ..|.makeMap ..|.range ..=>true
 | .call c=>match c.callee with
  | .builtin .append=>true
  | .value _=>true
  | _=>false
 | _=>false
def wM:Op->Option Tmp
 | .fieldAddr _ x _=>match x with|.tmp t=>some t|_=>none
 | .indexAddr _ x _=>match x with|.tmp t=>some t|_=>none
 | .nilCheck x=>match x with|.tmp t=>some t|_=>none
 | .move x=>match x with|.tmp t=>some t|_=>none
 | .assign x=>match x with|.tmp t=>some t|_=>none
 | .slice _ x _ _ mx=>match x,mx with|.tmp t,none=>some t|_,_=>none
 | _=>none
def JG (o:Oper) (t:Tmp):Bool:=match o.dst with|some d=>Nat.beq d t|none=>false
theorem RP {o:Oper} {t:Tmp}:JG o t=true↔o.dst=some t:=by
 unfold JG
 cases o.dst with
 | none=>simp
 | some d=>simp only [rI];exact ⟨ot,λh=>h ▸ RL d⟩
def sU (
     r:Tmp->Option (List Tmp)) (t:Tmp):List Oper->Option (List Tmp)
 | []=>some [t]
 | o :: os=>match JG o t with
  | false=>sU r t os
  | true=>match newVar o.op with
   | true=>sU r t os
   | false=>match wM o.op with
    | none=>none
    | some x=>match r x,sU r t os with
     | some a,some b=>some (a++b)
     | _,_=>none
def lV (ops:List Oper):Nat->Tmp->Option (List Tmp)
 | 0,_=>none
 | n+1,t=>sU (lV ops n) t ops
theorem MV {r r':Tmp->Option (List Tmp)} (h:∀x a,r x=some a->r' x=some a) {t:Tmp}:∀{os:List Oper} {A:List Tmp},sU r t os=some A->sU r' t os=some A
 | [],A,e=>e
 | o :: os,A,e=>by
  unfold sU at e ⊢
  split at e
  ·exact MV h e
  ·split at e
   ·exact MV h e
   ·split at e
    ·cases e
    ·split at e
     ·rename_i a b h1 h2
      simp only [h _ _ h1,MV h h2]
      exact e
     ·cases e
theorem Z0 {ops:List Oper}:∀{n:Nat} {t:Tmp} {A:List Tmp},lV ops n t=some A->lV ops (n+1) t=some A
 | 0,t,A,h=>by cases h
 | n+1,t,A,h=>MV (λ_ _=>Z0) h
theorem MW {r:Tmp->Option (List Tmp)} {t:Tmp}:∀{os:List Oper} {A:List Tmp},sU r t os=some A->t∈A
 | [],A,e=>by cases e;simp
 | o :: os,A,e=>by
  unfold sU at e
  split at e
  ·exact MW e
  ·split at e
   ·exact MW e
   ·split at e
    ·cases e
    ·split at e
     ·rename_i a b h1 h2
      cases e
      exact AO _ (MW h2)
     ·cases e
theorem Jh {r:Tmp->Option (List Tmp)} {t:Tmp} {o:Oper} (hd:o.dst=some t):∀{os:List Oper} {A:List Tmp},o∈os->sU r t os=some A ->
  newVar o.op=true\/∃x B,wM o.op=some x/\r x=some B/\∀y∈B,y∈A
 | [],A,h,_=>by cases h
 | o' :: os,A,h,e=>by
  unfold sU at e
  split at e
  ·rename_i h1
   rcases cV.1 h with rfl|h
   ·rw [RP.2 hd] at h1;cases h1
   ·exact Jh hd h e
  ·split at e
   ·rename_i h1 h2
    rcases cV.1 h with rfl|h
    ·exact .inl h2
    ·exact Jh hd h e
   ·split at e
    ·cases e
    ·rename_i x h3
     split at e
     ·rename_i a b h4 h5
      cases e
      rcases cV.1 h with rfl|h
      ·exact .inr ⟨x,a,h3,h4,λy hy=>wj _ hy⟩
      ·rcases Jh hd h h5 with h6|⟨x,B,h6,h7,h8⟩
       ·exact .inl h6
       ·exact .inr ⟨x,B,h6,h7,λy hy=>AO _ (h8 y hy)⟩
     ·cases e
def wN:List Nat->List Nat->Bool
 | [],_=>true
 | a :: r,l=>(l.all λb=>!Nat.beq a b)&&wN r l
theorem aa4:∀{x y:List Nat},wN x y=true->∀l∈x,l∉y
 | [],_,_,l,hl=>by cases hl
 | a :: r,y,h,l,hl=>by
  simp only [wN,cQ] at h
  rcases cV.1 hl with rfl|hl
  ·intro hy
   have:=jo.1 h.1 l hy
   simp at this
  ·exact aa4 h.2 l hl
def Dt (ops:List Oper) (A:List Tmp):List Tmp->Bool
 | []=>true
 | y :: r=>(match lV ops 8 y with
  | some B=>wN A B
  | none=>false)&&Dt ops A r
def PB (ops:List Oper) (p j:Oper):Bool :=
 match kD p.op,gZ j.op with
 | some x,some ys=>match lV ops 8 x with
  | some A=>Dt ops A ys
  | none=>false
 | _,_=>false
structure Hp (ops:List Oper) (p j:Oper) (x:Tmp) (ys:List Tmp):Prop where
 p:kD p.op=some x
 j:gZ j.op=some ys
 ax:∃A,lV ops 8 x=some A
 d:∀A,lV ops 8 x=some A->∀y∈ys,∃B,lV ops 8 y=some B/\wN A B=true
theorem Y2 {ops:List Oper} {A:List Tmp}:∀{ys:List Tmp},Dt ops A ys=true->∀y∈ys,∃B,lV ops 8 y=some B/\wN A B=true
 | [],_,y,hy=>by cases hy
 | z :: r,h,y,hy=>by
  simp only [Dt,cQ] at h
  rcases cV.1 hy with rfl|hy
  ·have h1:=h.1
   split at h1
   ·rename_i B hB;exact ⟨B,hB,h1⟩
   ·cases h1
  ·exact Y2 h.2 y hy
theorem Z1 {ops:List Oper} {p j:Oper} (h:PB ops p j=true):∃x ys,Hp ops p j x ys:=by
 unfold PB at h
 split at h
 ·rename_i x ys h1 h2
  split at h
  ·rename_i A h3
   exact ⟨x,ys,h1,h2,⟨A,h3⟩,λA' e1=>by rw [h3] at e1;cases e1;exact Y2 h⟩
  ·cases h
 ·cases h
def Nz (ops:List Oper) (p j:Oper):Bool :=
 (match p.dst with|some d=>!(lu j.op).contains d&&gT ops j != some d&&j.dst != some d|none=>true) &&
 (match j.dst with|some d=>!(lu p.op).contains d&&gT ops p != some d|none=>true) &&
 (match gT ops p with|some g=>!(lu j.op).contains g|none=>true) &&
 (match gT ops j with|some g=>!(lu p.op).contains g|none=>true)
def indep (ops:List Oper) (p j:Oper):Bool :=
 Nz ops p j&&((!(o7 p.op&&uB j.op)||PB ops p j)&&(!(o7 j.op&&uB p.op)||PB ops j p))
structure y6 (ops:List Oper) (p j:Oper):Prop where
 d1:∀d,p.dst=some d->d∉lu j.op
 d2:∀d,p.dst=some d->gT ops j≠some d
 d3:∀d,p.dst=some d->j.dst≠some d
 e1:∀d,j.dst=some d->d∉lu p.op
 e2:∀d,j.dst=some d->gT ops p≠some d
 g1:∀g,gT ops p=some g->g∉lu j.op
 g2:∀g,gT ops j=some g->g∉lu p.op
structure wE (ops:List Oper) (p j:Oper):Prop where
 t:y6 ops p j
 w1:o7 p.op=true->uB j.op=false\/∃x ys,Hp ops p j x ys
 w2:o7 j.op=true->uB p.op=false\/∃x ys,Hp ops j p x ys
theorem X7 {ops:List Oper} {p j:Oper} (h:Nz ops p j=true):y6 ops p j:=by
 unfold Nz at h
 simp only [cQ] at h
 obtain ⟨⟨⟨h1,h2⟩,h3⟩,h4⟩:=h
 constructor
 ·intro d hd;rw [hd] at h1;simp at h1;exact h1.1.1
 ·intro d hd;rw [hd] at h1;simp at h1;exact h1.1.2
 ·intro d hd;rw [hd] at h1;simp at h1;exact h1.2
 ·intro d hd;rw [hd] at h2;simp at h2;exact h2.1
 ·intro d hd;rw [hd] at h2;simp at h2;exact h2.2
 ·intro g hg;rw [hg] at h3;simpa using h3
 ·intro g hg;rw [hg] at h4;simpa using h4
theorem Mu {ops:List Oper} {p j:Oper} (h:indep ops p j=true):wE ops p j:=by
 unfold indep at h
 simp only [cQ,px,pw,Bool.and_eq_false_iff] at h
 obtain ⟨h0,h5,h6⟩:=h
 refine ⟨X7 h0,?_,?_⟩
 ·intro hw
  rcases h5 with (h5|h5)|h
  ·rw [hw] at h5;cases h5
  ·exact .inl h5
  ·exact .inr (Z1 h)
 ·intro hw
  rcases h6 with (h6|h6)|h
  ·rw [hw] at h6;cases h6
  ·exact .inl h6
  ·exact .inr (Z1 h)
theorem y6.symm {ops:List Oper} {p j:Oper} (h:y6 ops p j):y6 ops j p :=
 ⟨h.e1,h.e2,λd hd e=>h.d3 d e hd,h.d1,h.d2,h.g2,h.g1⟩
theorem wE.symm {ops:List Oper} {p j:Oper} (h:wE ops p j):wE ops j p:=⟨h.t.symm,h.w2,h.w1⟩
theorem ak9 {s s':St} {x:Operand} (h:∀t,x=.tmp t->s.t[t]?=s'.t[t]?):ev s x=ev s' x:=by
 cases x with
 | tmp t=>simp only [ev,h t rfl]
 | _=>rfl
theorem Mq {c:Call} {x:Operand} (h:x∈c.args.toList):x∈c.operands:=by
 unfold Call.operands
 exact Array.mem_append.2 (.inr (Array.mem_toList_iff.1 h))
theorem XP (X:Ctx) {s s':St} (l:Nat) (op:Op) (h:∀t∈lu op,s.t[t]?=s'.t[t]?) (hb:s.b=s'.b):eJ X s l op=eJ X s' l op:=by
 have e:∀x∈op.operands,ev s x=ev s' x:=λx hx=>ak9 λt ht=>h t (by
  subst ht
  exact FH.2 ⟨.tmp t,by simpa using hx,rfl⟩)
 have adj:∀ps:Array (Nat × Operand),(∀x∈ps.map (·.2),ev s x=ev s' x)->(ps.toList.map λp=>(p.1,ev s p.2))=(ps.toList.map λp=>(p.1,ev s' p.2)):=λps hp =>
  qM λp hm=>by rw [hp p.2 (Array.mem_map.2 ⟨p,by simpa using hm,rfl⟩)]
 cases op<;>simp only [Op.operands] at e<;>simp only [eJ,<-hb]
 case call c =>
  have ha:c.args.toList.map (ev s)=c.args.toList.map (ev s'):=qM λx hx=>e x (Mq hx)
  cases hc:c.callee with
  | value g =>
   have hg:ev s g=ev s' g:=e g (by simp [Call.operands,hc])
   simp only [hg,ha]
  | invoke r m=>rfl
  | builtin b=>simp only [ha]
 case build t ps=>rw [adj ps (λx hx=>e x (by simpa using hx))]
 case buildSlice t n ps=>rw [adj ps (λx hx=>e x (by simpa using hx))]
 case makeFunc fn first captured =>
  rw [qM (l:=first.toList) (f:=ev s) (g:=ev s') λx hx=>e x (by simp [<-Array.mem_toList_iff,hx]),
   qM (l:=captured.toList) (f:=ev s) (g:=ev s') λx hx=>e x (by simp [<-Array.mem_toList_iff,hx])]
 case slice t x lo hi mx=>cases lo<;>cases hi<;>cases mx<;>simp_all
 all_goals first|rfl|(simp_all;done)
def eU:SV->Option Nat
 | .ptr l _=>some l
 | .gz l _ _ _=>some l
 | .own l=>some l
 | .fa l _ _ _=>some l
 | .gF l=>some l
 | .gP l=>some l
 | _=>none
theorem aa5 (X:Ctx) {b b':List Slot} (t:TypeId) {x:SV} (h:∀l,eU x=some l->b[l]?=b'[l]?):DB X b t x=DB X b' t x:=by
 unfold DB
 cases x<;>simp only [eU] at h<;>first|rfl|(simp only [h _ rfl])
theorem Z2 (X:Ctx) {b b':List Slot} (t:TypeId) {x y:SV} (h:∀l,eU x=some l->b[l]?=b'[l]?):A7 X b t x y=A7 X b' t x y:=by
 unfold A7
 cases x<;>simp only [eU] at h<;>first|rfl|(simp only [h _ rfl])
theorem Y3 (X:Ctx) {b b':List Slot} (t:TypeId) {x y:SV} (ok:Bool) (h:∀l,eU x=some l->b[l]?=b'[l]?):Dg X b t x y ok=Dg X b' t x y ok:=by
 unfold Dg
 cases x<;>simp only [eU] at h<;>first|rfl|(simp only [h _ rfl])
theorem Z3 {b b':List Slot} {x:SV} (h:∀l,eU x=some l->b[l]?=b'[l]?):Ds b x=Ds b' x:=by
 unfold Ds
 cases x with
 | ptr l off =>
  cases off with
  | zero=>simp only [h l rfl]
  | succ n=>rfl
 | _=>rfl
theorem Mn (X:Ctx) {b b':List Slot} (t:TypeId) {x y z:SV} (h:∀l,eU x=some l->b[l]?=b'[l]?):yM X b t x y z=yM X b' t x y z:=by
 unfold yM
 cases x<;>simp only [eU] at h<;>first|rfl|(simp only [h _ rfl])
theorem XQ (X:Ctx) {b b':List Slot} (t:TypeId) {x y:SV} (h:∀l,eU x=some l->b[l]?=b'[l]?):Au X b t x y=Au X b' t x y:=by
 unfold Au
 cases x<;>simp only [eU] at h<;>first|rfl|(simp only [h _ rfl])
theorem anK (X:Ctx) {b b':List Slot} (t:TypeId) {x:SV} (h:∀l,eU x=some l->b[l]?=b'[l]?):DS X b t x=DS X b' t x:=by
 unfold DS
 cases X.tt t with
 | none=>rfl
 | some i =>
  simp only
  cases i.d<;>cases x<;>simp only [eU] at h<;>first|rfl|(simp only [h _ rfl])
theorem adk {b b':List Slot} {x:SV} (h:∀l,eU x=some l->b[l]?=b'[l]?):top b x=top b' x:=by
 cases x<;>simp only [eU] at h<;>first|rfl|(simp only [top,h _ rfl])
theorem akf (X:Ctx) {b b':List Slot} (l:Nat) (t:TypeId) {x y:SV} (h:∀l,eU x=some l->b[l]?=b'[l]?) (h':∀l,eU y=some l->b[l]?=b'[l]?) :
  yX X b l t x y=yX X b' l t x y:=by
 unfold yX
 rw [adk h']
 by_cases hl:∃l,eU x=some l
 ·obtain ⟨l0,hl⟩:=hl
  have hb:=h l0 hl
  cases x<;>simp only [eU] at hl<;>first|(cases hl;done)|(cases hl;simp only [hb])
 ·cases x<;>first|exact absurd ⟨_,rfl⟩ hl|rfl|((repeat' (first|rfl|split))<;>simp_all;done)
theorem ajA (X:Ctx) {b b':List Slot} (l:Nat) (t t':TypeId) {x y:SV} (h:∀l,eU x=some l->b[l]?=b'[l]?):yU X b l t t' x y=yU X b' l t t' x y:=by
 unfold yU
 cases x<;>simp only [eU] at h<;>first|rfl|(simp only [h _ rfl])
theorem amw (X:Ctx) {b b':List Slot} (t:TypeId) {x y:SV} (h:∀l,eU x=some l->b[l]?=b'[l]?) (h':∀l,eU y=some l->b[l]?=b'[l]?) :
  Bj X b t x y=Bj X b' t x y:=by
 unfold Bj
 rw [adk h']
 cases X.tt t with
 | none=>rfl
 | some i =>
  simp only
  cases i.d<;>try rfl
  rename_i e
  simp only
  cases X.tt e with
  | none=>cases x<;>rfl
  | some k=>cases x<;>simp only [eU] at h<;>first|rfl|simp only [h _ rfl]
theorem Z4 (X:Ctx) {b b':List Slot} (l:Nat) (t:TypeId) {x:SV} (lo hi mx:Option SV) (h:∀l,eU x=some l->b[l]?=b'[l]?) :
  A9 X b l t x lo hi mx=A9 X b' l t x lo hi mx:=by
 unfold A9
 cases X.tt t with
 | none=>rfl
 | some i =>
  simp only
  cases i.d<;>try rfl
  rename_i e
  simp only
  cases X.tt e with
  | none=>rfl
  | some k=>cases mx<;>cases x<;>simp only [eU] at h<;>first|rfl|simp only [h _ rfl]
theorem ala (X:Ctx) {b b':List Slot} (t:TypeId) {x:SV} (h:∀l,eU x=some l->b[l]?=b'[l]?):A8 X b t x=A8 X b' t x:=by
 unfold A8
 cases X.tt t with
 | none=>rfl
 | some i =>
  simp only
  cases i.d<;>try rfl
  rename_i e
  simp only
  cases X.tt e with
  | none=>rfl
  | some k=>cases x<;>simp only [eU] at h<;>first|rfl|simp only [h _ rfl]
theorem Yr (X:Ctx) {b b':List Slot} (l:Nat) (bi:Builtin) (ts:List TypeId) {xs:List SV} (h:∀x∈xs,∀l,eU x=some l->b[l]?=b'[l]?) :
  AR X b l bi ts xs=AR X b' l bi ts xs:=by
 unfold AR
 cases bi<;>try rfl
 ·simp only
  split
  ·rw [akf X l _ (h _ (by simp)) (h _ (by simp)),ajA X l _ _ (h _ (by simp))]
  ·rfl
 ·simp only
  split
  ·rw [ala X _ (h _ (by simp))]
  ·rfl
 ·simp only
  split
  ·rw [amw X _ (h _ (by simp)) (h _ (by simp))]
  ·rfl
 ·simp only
  split
  ·rw [anK X _ (h _ (by simp))]
  ·rfl
theorem SL (X:Ctx) (t:List SV) (b b':List Slot) (l:Nat) (op:Op) (h:uB op=false):eJ X ⟨t,b⟩ l op=eJ X ⟨t,b'⟩ l op:=by
 cases op<;>simp [uB] at h<;>rfl
theorem amx (X:Ctx) (t:List SV) (b b':List Slot) (l:Nat) (op:Op) (hd:deep op=false) (h:∀x∈op.operands,∀l,eU (ev ⟨t,b⟩ x)=some l->b[l]?=b'[l]?) :
  eJ X ⟨t,b⟩ l op=eJ X ⟨t,b'⟩ l op:=by
 cases op<;>try rfl
 case load ty x=>exact aa5 X ty (h x (by simp [Op.operands]))
 case store ty x y=>exact Z2 X ty (h x (by simp [Op.operands]))
 case indexAddr ty x y=>exact XQ X ty (h x (by simp [Op.operands]))
 case lookup ty x y ok=>exact Y3 X ty ok (h x (by simp [Op.operands]))
 case entry x=>exact Z3 (h x (by simp [Op.operands]))
 case mapUpdate ty x y z=>exact Mn X ty (h x (by simp [Op.operands]))
 case insert ty x y z=>exact Mn X ty (h x (by simp [Op.operands]))
 case slice ty x lo hi mx =>
  have e:∀x,ev ⟨t,b⟩ x=ev ⟨t,b'⟩ x:=λx=>by cases x<;>rfl
  have e':ev ⟨t,b⟩=ev ⟨t,b'⟩:=funext e
  simp only [eJ,<-e']
  exact Z4 X l ty _ _ _ (h x (by simp [Op.operands]))
 case call c =>
  simp only [eJ]
  cases hc:c.callee with
  | value g=>simp [deep,hc] at hd
  | invoke r m=>rfl
  | builtin bi =>
   simp only
   have e:c.args.toList.map (ev ⟨t,b⟩)=c.args.toList.map (ev ⟨t,b'⟩):=qM λx _=>by cases x<;>rfl
   rw [<-e]
   refine Yr X l bi _ λy hy=>?_
   obtain ⟨x,hx,rfl⟩:=jS.1 hy
   exact h x (by simp only [Op.operands];exact Mq hx)
def iz (s:St) (t:Tmp):Option Nat:=eU ((s.t[t]?).getD .any)
theorem amy (v:Value):eU (zF v)=none:=by
 have h1:∀v,eU (lA v)=none:=λv=>by unfold lA;split<;>rfl
 unfold zF
 split
 ·rfl
 ·exact h1 _
theorem aa6 (X:Ctx) (t:List SV) (b b':List Slot) (l:Nat) (op:Op) {ys:List Tmp} (hm:gZ op=some ys) (h:∀y∈ys,∀l,iz ⟨t,b⟩ y=some l->b[l]?=b'[l]?) :
  eJ X ⟨t,b⟩ l op=eJ X ⟨t,b'⟩ l op:=by
 cases op<;>try (cases hm;done)
 case load ty x =>
  cases x<;>simp [gZ] at hm
  subst hm
  exact aa5 X ty (h _ (by simp))
 case store ty x z =>
  cases x<;>simp [gZ] at hm
  subst hm
  have e:ev ⟨t,b⟩ z=ev ⟨t,b'⟩ z:=by cases z<;>rfl
  simp only [eJ,e]
  exact Z2 X ty (h _ (by simp))
 case indexAddr ty x z =>
  cases x<;>simp [gZ] at hm
  subst hm
  have e:ev ⟨t,b⟩ z=ev ⟨t,b'⟩ z:=by cases z<;>rfl
  simp only [eJ,e]
  exact XQ X ty (h _ (by simp))
 case entry x =>
  cases x<;>simp [gZ] at hm
  subst hm
  exact Z3 (h _ (by simp))
 case lookup ty x z ok =>
  cases x<;>simp [gZ] at hm
  subst hm
  have e:ev ⟨t,b⟩ z=ev ⟨t,b'⟩ z:=by cases z<;>rfl
  simp only [eJ,e]
  exact Y3 X ty ok (h _ (by simp))
 case mapUpdate ty x z z' =>
  cases x<;>simp [gZ] at hm
  subst hm
  have e:ev ⟨t,b⟩ z=ev ⟨t,b'⟩ z:=by cases z<;>rfl
  have e':ev ⟨t,b⟩ z'=ev ⟨t,b'⟩ z':=by cases z'<;>rfl
  simp only [eJ,e,e']
  exact Mn X ty (h _ (by simp))
 case insert ty x z z' =>
  cases x<;>simp [gZ] at hm
  subst hm
  have e:ev ⟨t,b⟩ z=ev ⟨t,b'⟩ z:=by cases z<;>rfl
  have e':ev ⟨t,b⟩ z'=ev ⟨t,b'⟩ z':=by cases z'<;>rfl
  simp only [eJ,e,e']
  exact Mn X ty (h _ (by simp))
 case slice ty x lo hi mx =>
  cases x<;>cases mx<;>simp [gZ] at hm
  subst hm
  have e:∀x,ev ⟨t,b⟩ x=ev ⟨t,b'⟩ x:=λx=>by cases x<;>rfl
  have e':ev ⟨t,b⟩=ev ⟨t,b'⟩:=funext e
  simp only [eJ,<-e']
  exact Z4 X l ty _ _ _ (h _ (by simp))
 case call c =>
  simp only [eJ]
  cases hc:c.callee with
  | value g=>simp [gZ,hc] at hm
  | invoke r m=>rfl
  | builtin bi =>
   simp only [gZ,hc,rI] at hm
   subst hm
   simp only
   have e:c.args.toList.map (ev ⟨t,b⟩)=c.args.toList.map (ev ⟨t,b'⟩):=qM λx _=>by cases x<;>rfl
   rw [<-e]
   refine Yr X l bi _ λy hy=>?_
   obtain ⟨x,hx,rfl⟩:=jS.1 hy
   cases x with
   | tmp z=>exact h z (FH.2 ⟨.tmp z,hx,rfl⟩)
   | const v =>
    intro l hl
    have:eU (zF v)=some l:=hl
    rw [amy] at this;cases this
   | global g=>intro l hl;cases hl
   | func f=>intro l hl;cases hl
theorem Mi (X:Ctx) (s:St) {ty:TypeId} {z:Operand} {y y':SV} {x:SV} {u:List (Nat × Slot)} (h:(yM X s.b ty (ev s z) y y').out x u) :
  ∃k sl,eU (ev s z)=some k/\u=[(k,sl)]/\∃x0,s.b[k]?=some x0/\x0.live=.live:=by
 unfold yM at h
 split at h<;>try exact h.elim
 split at h<;>try exact h.elim
 split at h<;>try exact h.elim
 split at h<;>try exact h.elim
 split at h<;>try exact h.elim
 rename_i k e
 split at h<;>try exact h.elim
 rename_i hs
 split at h<;>try exact h.elim
 split at h<;>try exact h.elim
 obtain ⟨_,_,_,rfl⟩:=h
 exact ⟨k,_,by rw [e];rfl,rfl,_,hs,rfl⟩
theorem Y4 (X:Ctx) (s:St) (l:Nat) (op:Op) {x:SV} {u:List (Nat × Slot)} (h:(eJ X s l op).out x u) {t:Tmp} (hm:kD op=some t) :
  ∀q∈u,iz s t=some q.1\/(gu op=true/\q.1=l):=by
 cases op<;>try (cases hm;done)
 case store ty z z' =>
  cases z<;>simp [kD] at hm
  rename_i t'
  subst hm
  simp only [eJ] at h
  unfold A7 at h
  split at h<;>try exact h.elim
  split at h<;>try exact h.elim
  split at h
  ·rename_i k off e
   repeat' split at h
   all_goals try exact h.elim
   obtain rfl:=h.2
   intro q hq;simp at hq;subst hq
   have e':iz s t'=eU (ev s (.tmp t')):=rfl
   left;rw [e',e];rfl
  ·rename_i k sz j off e
   repeat' split at h
   all_goals try exact h.elim
   all_goals
    first|(obtain ⟨_,_,_,rfl⟩:=h;done)|skip
   all_goals
    first|(obtain ⟨_,_,rfl⟩:=h)|(obtain ⟨_,_,_,rfl⟩:=h)
    intro q hq;simp at hq;subst hq
    have e':iz s t'=eU (ev s (.tmp t')):=rfl
    left;rw [e',e];rfl
  ·exact h.elim
 case mapUpdate ty z z' z'' =>
  cases z<;>simp [kD] at hm
  rename_i t'
  subst hm
  obtain ⟨k,sl,h1,rfl,_⟩:=Mi X s h
  intro q hq;simp at hq;subst hq
  exact .inl h1
 case insert ty z z' z'' =>
  cases z<;>simp [kD] at hm
  rename_i t'
  subst hm
  obtain ⟨k,sl,h1,rfl,_⟩:=Mi X s h
  intro q hq;simp at hq;subst hq
  exact .inl h1
 case call c =>
  obtain ⟨callee,args,argTypes⟩:=c
  simp only [eJ] at h
  cases callee with
  | value g=>simp [kD] at hm
  | invoke r m=>simp [kD] at hm
  | builtin bi =>
   simp only at h
   have hd:∀{xs:List Operand} {a b:SV},AY xs=some t->xs.map (ev s)=[a,b]->iz s t=eU a:=by
    intro xs a b h1 h2
    unfold AY at h1
    split at h1
    ·simp at h1;subst h1
     simp only [iE,MR] at h2
     rw [<-h2.1];rfl
    ·cases h1
   unfold AR at h
   split at h<;>simp [kD] at hm
   ·split at h<;>try exact h.elim
    rename_i y z Hq
    have hl:=hd hm (by assumption)
    split at h
    ·unfold yX at h
     repeat' split at h
     all_goals try exact h.elim
     iterate 2
      obtain ⟨_,_,_,rfl⟩:=h
      intro q hq;simp at hq
      rcases hq with rfl|rfl
      ·left;rw [hl];rfl
      ·right;exact ⟨rfl,rfl⟩
     all_goals
      obtain ⟨_,_,_,rfl⟩:=h
      intro q hq;simp at hq;subst hq
      right;exact ⟨rfl,rfl⟩
    ·unfold yU at h
     repeat' split at h
     all_goals try exact h.elim
     ·obtain ⟨_,_,_,rfl⟩:=h
      intro q hq;simp at hq;subst hq
      right;exact ⟨rfl,rfl⟩
     obtain ⟨_,_,_,rfl⟩:=h
     intro q hq;simp at hq
     rcases hq with rfl|rfl
     ·left;rw [hl];rfl
     ·right;exact ⟨rfl,rfl⟩
   ·split at h<;>try exact h.elim
    have hl:=hd hm (by assumption)
    split at h<;>try exact h.elim
    unfold Bj at h
    repeat' split at h
    all_goals try exact h.elim
    obtain ⟨_,_,_,rfl⟩:=h
    intro q hq;simp at hq;subst hq
    left;rw [hl];rfl
   ·split at h<;>try exact h.elim
    rename_i ty y VI Hq
    have hl:iz s t=eU y:=by
     unfold AY at hm
     split at hm
     ·rename_i e1
      simp at hm;subst hm
      rw [e1] at Hq
      simp only [iE,MR] at Hq
      rw [<-Hq.1];rfl
     ·cases hm
    unfold A8 at h
    repeat' split at h
    all_goals try exact h.elim
    obtain ⟨_,_,_,rfl⟩:=h
    intro q hq;simp at hq;subst hq
    left;rw [hl];rfl
   ·exact h.elim
theorem Z5 (X:Ctx) (s:St) (l:Nat) (op:Op) {x:SV} {u:List (Nat × Slot)} (h:(eJ X s l op).out x u) {t:Tmp} (hm:wM op=some t) :
  ∀k,eU x=some k->iz s t=some k:=by
 have key:∀z,z=ev s (.tmp t)->∀k,eU z=some k->iz s t=some k:=by rintro z rfl k hk;exact hk
 cases op<;>try (cases hm;done)
 case move z =>
  cases z<;>simp [wM] at hm
  subst hm
  obtain ⟨rfl,_⟩:=h
  exact key _ rfl
 case assign z =>
  cases z<;>simp [wM] at hm
  subst hm
  obtain ⟨rfl,_⟩:=h
  exact key _ rfl
 case nilCheck z =>
  cases z<;>simp [wM] at hm
  subst hm
  simp only [eJ] at h
  split at h<;>first|exact h.elim|skip
  ·rename_i e;obtain ⟨rfl,_⟩:=h;exact key _ e.symm
  ·rename_i e;obtain ⟨rfl,_⟩:=h;exact key _ e.symm
  ·obtain ⟨rfl,_⟩:=h;intro k hk;cases hk
 case fieldAddr ty z j =>
  cases z<;>simp [wM] at hm
  subst hm
  rename_i t
  simp only [eJ] at h
  generalize hz:ev s (.tmp t)=z at h
  unfold IC at h
  repeat' split at h
  all_goals first|exact h.elim|skip
  all_goals
   obtain ⟨rfl,_⟩:=h
   intro k hk
   exact key _ hz.symm k hk
 case slice ty z lo hi mx =>
  cases z<;>cases mx<;>simp [wM] at hm
  subst hm
  rename_i t
  have hc:∀a b,clip a b none=false:=λa b=>by unfold clip;split<;>simp_all
  simp only [eJ,CW] at h
  generalize hz:ev s (.tmp t)=z at h
  unfold A9 at h
  simp only [hc,Bool.false_and,pv,if_false] at h
  repeat' split at h
  all_goals first|exact h.elim|skip
  all_goals
   intro k hk
   first
   | (obtain ⟨_,_,rfl,_⟩:=h;cases hk;done)
   | (obtain ⟨_,rfl,_⟩:=h;first|(cases hk;done)|exact key _ hz.symm k hk)
   | (obtain ⟨rfl,_⟩:=h;cases hk;done)
 case indexAddr ty z ix =>
  cases z<;>simp [wM] at hm
  subst hm
  rename_i t
  simp only [eJ] at h
  generalize hz:ev s (.tmp t)=z at h
  unfold Au at h
  repeat' split at h
  all_goals first|exact h.elim|skip
  all_goals
   intro k hk
   first
   | (obtain ⟨_,_,rfl,_⟩:=h;first|(cases hk;done)|exact key _ hz.symm k hk)
   | (obtain ⟨rfl,_⟩:=h;first|(cases hk;done)|exact key _ hz.symm k hk)
   | (obtain ⟨_,rfl,_⟩:=h;exact key _ hz.symm k hk)
def Du (ops:List Oper) (lb:List (Oper × Nat)) (s:St) (t:Tmp):List Nat :=
 (match iz s t with|some l=>[l]|none=>[])++(lb.filterMap λp=>match JG p.1 t&&newVar p.1.op&&gu p.1.op with|true=>some p.2|false=>none)
def rN (ops:List Oper) (lb:List (Oper × Nat)) (s:St) (t:Tmp):List Nat:=match lV ops 8 t with
 | some A=>A.flatMap (Du ops lb s)
 | none=>[]
structure qv (ops:List Oper) (K:Tmp->List Nat) (s:St):Prop where
 ji:∀t A,lV ops 8 t=some A->∀l,iz s t=some l->l∈K t
 cl:∀o∈ops,∀t x A,o.dst=some t->newVar o.op=false->wM o.op=some x->lV ops 8 t=some A->(∃B,lV ops 8 x=some B)/\∀l∈K x,l∈K t
 PC:∀p∈ops,∀j∈ops,∀x ys,Hp ops p j x ys->o7 p.op=true->∀y∈ys,∀l∈K x,l∉K y
def vk (ops:List Oper) (K:Tmp->List Nat) (o:Oper) (l:Nat):Prop:=∀t A,o.dst=some t->newVar o.op=true->gu o.op=true->lV ops 8 t=some A->l∈K t
theorem MX {ops:List Oper} {lb:List (Oper × Nat)} {s:St}:∀o∈ops,∀t x A,o.dst=some t->newVar o.op=false->wM o.op=some x->lV ops 8 t=some A ->
  (∃B,lV ops 8 x=some B)/\∀l∈rN ops lb s x,l∈rN ops lb s t:=by
 intro o ho t x A hd hn hx hA
 have hA':sU (lV ops 7) t ops=some A:=hA
 rcases Jh hd ho hA' with h|⟨x',B,h1,h2,h3⟩
 ·rw [h] at hn;cases hn
 ·rw [hx] at h1;cases h1
  have h4:=Z0 h2
  refine ⟨⟨B,h4⟩,λl hl=>?_⟩
  unfold rN at hl ⊢
  rw [h4] at hl
  rw [hA]
  obtain ⟨y,hy,hl⟩:=IU.1 hl
  exact IU.2 ⟨y,h3 y hy,hl⟩
theorem IB {ops:List Oper} {lb:List (Oper × Nat)} {s:St} {t:Tmp} {A:List Tmp} (h:lV ops 8 t=some A) {l:Nat} (hl:l∈Du ops lb s t):l∈rN ops lb s t:=by
 unfold rN
 rw [h]
 exact IU.2 ⟨t,MW (show sU (lV ops 7) t ops=some A from h),hl⟩
theorem qv.ne {ops:List Oper} {K:Tmp->List Nat} {s:St} (h:qv ops K s) {p j:Oper} (hp:p∈ops) (hj:j∈ops) {x:Tmp} {ys:List Tmp} (F:Hp ops p j x ys) (hw:o7 p.op=true) {l:Nat} (hx:iz s x=some l)
  {y:Tmp} (hm:y∈ys):iz s y≠some l:=λhy=>by
 obtain ⟨A,hA⟩:=F.ax
 obtain ⟨B,hB,_⟩:=F.d A hA y hm
 exact h.PC p hp j hj x ys F hw y hm l (h.ji x A hA l hx) (h.ji y B hB l hy)
def Sep (p j:Oper) (s:St):Prop:=o7 p.op=true->uB j.op=false\/∃x ys,kD p.op=some x/\gZ j.op=some ys/\∀l,iz s x=some l->∀y∈ys,iz s y≠some l
theorem wE.sep {ops:List Oper} {K:Tmp->List Nat} {s:St} {p j:Oper} (h:wE ops p j) (FA:qv ops K s) (hp:p∈ops) (hj:j∈ops):Sep p j s:=λhw=>by
 rcases h.w1 hw with h1|⟨x,ys,F⟩
 ·exact .inl h1
 ·exact .inr ⟨x,ys,F.p,F.j,λl hl y hy=>FA.ne hp hj F hw hl hy⟩
def Tg (b:List Slot) (l:Nat):Prop:=∃z,b[l]?=some z/\z.live=.live
def Shape (b:List Slot) (l:Nat) (op:Op) (u:List (Nat × Slot)):Prop :=
 u=[]\/(gu op=true/\∃y,u=[(l,y)])\/(o7 op=true/\∃l0 y,u=[(l0,y)]/\Tg b l0) \/
  (o7 op=true/\gu op=true/\∃l0 y z,u=[(l0,y),(l,z)]/\Tg b l0)
theorem Y5 (X:Ctx) (s:St) (l:Nat) (op:Op) {x:SV} {u:List (Nat × Slot)} (h:(eJ X s l op).out x u):Shape s.b l op u:=by
 have no:∀{A:eN},A.out x u->(∀x' u',A.out x' u'->u'=[])->Shape s.b l op u:=λh1 h2=>.inl (h2 _ _ h1)
 cases op<;>simp only [eJ] at h<;>try exact h.elim
 case move y=>exact .inl h.2
 case assign y=>exact .inl h.2
 case pick c y z =>
  unfold N4 at h
  split at h<;>try (first|exact h.elim|exact .inl h.2)
  split at h<;>first|exact h.elim|exact .inl h.2
 case alloc e =>
  split at h<;>first|exact h.elim|exact .inr (.inl ⟨rfl,_,h.2⟩)
 case box e y =>
  split at h<;>first|exact h.elim|exact .inr (.inl ⟨rfl,_,h.2⟩)
 case build t ps =>
  unfold Nt at h
  repeat' split at h
  all_goals first|exact h.elim|exact .inl h.2
 case buildSlice t n ps =>
  unfold IA at h
  repeat' split at h
  all_goals first|exact h.elim|exact .inl h.2|exact .inr (.inl ⟨rfl,_,h.2⟩)|(obtain ⟨_,_,_,h⟩:=h;exact .inr (.inl ⟨rfl,_,h⟩))
 case load t y =>
  unfold DB at h
  repeat' split at h
  all_goals first|exact h.elim|exact .inl h.2|exact .inl h.2.2|(obtain ⟨_,_,_,h⟩:=h;exact .inl h)
 case store t y z =>
  unfold A7 at h
  repeat' split at h
  all_goals try exact h.elim
  ·rename_i hs _
   exact .inr (.inr (.inl ⟨rfl,_,_,h.2,_,hs,rfl⟩))
  ·exact .inr (.inr (.inl ⟨rfl,_,_,h.2.2,_,by assumption,rfl⟩))
  ·obtain ⟨_,_,_,h⟩:=h
   exact .inr (.inr (.inl ⟨rfl,_,_,h,_,by assumption,rfl⟩))
 case mapUpdate t y z z' =>
  obtain ⟨k,sl,_,rfl,x0,hs,hl⟩:=Mi X s h
  exact .inr (.inr (.inl ⟨rfl,_,_,rfl,_,hs,hl⟩))
 case insert t y z z' =>
  obtain ⟨k,sl,_,rfl,x0,hs,hl⟩:=Mi X s h
  exact .inr (.inr (.inl ⟨rfl,_,_,rfl,_,hs,hl⟩))
 case entry y =>
  unfold Ds at h
  repeat' split at h
  all_goals first|exact h.elim|exact .inl h.2
 case lookup t y z ok =>
  unfold Dg at h
  repeat' split at h
  all_goals first|exact h.elim|(obtain ⟨_,_,_,h⟩:=h;exact .inl h)
 case makeMap t r =>
  unfold Jb at h
  repeat' split at h
  all_goals first|exact h.elim|exact .inr (.inl ⟨rfl,_,h.2⟩)
 case range t y =>
  unfold Jx at h
  repeat' split at h
  all_goals first|exact h.elim|exact .inr (.inl ⟨rfl,_,h.2⟩)
 case nilCheck y =>
  repeat' split at h
  all_goals first|exact h.elim|exact .inl h.2
 case binOp bo t y z t' =>
  unfold OG at h
  repeat' split at h
  all_goals try exact h.elim
  all_goals try exact .inl h.2
  all_goals try exact .inl h.2.2
  ·unfold Gg at h;split at h<;>first|exact h.elim|exact .inl h.2
  ·unfold A6 at h;split at h<;>first|exact h.elim|exact .inl h.2|exact .inl h.2.2
 case unOp uo t y =>
  unfold Ps at h
  repeat' split at h
  all_goals first|exact h.elim|exact .inl h.2
 case convert src dst y =>
  unfold N5 at h
  repeat' split at h
  all_goals first|exact h.elim|exact .inl h.2
 case makeFunc fn fs cs=>exact .inl h.2
 case makeSlice t n m =>
  unfold ID at h
  repeat' split at h
  all_goals first|exact h.elim|exact .inr (.inl ⟨rfl,_,h.2.2⟩)
 case slice t y lo hi mx =>
  unfold A9 at h
  split at h<;>try exact h.elim
  split at h<;>try exact h.elim
  ·split at h<;>try exact h.elim
   split at h
   ·rename_i hc
    split at h<;>try exact h.elim
    have hm:mx.isSome=true:=by
     simp only [cQ] at hc
     cases mx with
     | none=>simp [clip] at hc
     | some _=>rfl
    exact .inr (.inl ⟨by cases mx<;>simp at hm;rfl,_,h.2⟩)
   ·repeat' split at h
    all_goals first|exact h.elim|exact .inl h.2.2|exact .inl h.2|(obtain ⟨_,_,_,h⟩:=h;exact .inl h)
  ·repeat' split at h
   all_goals first|exact h.elim|exact .inl h.2.2
  ·repeat' split at h
   all_goals first|exact h.elim|(obtain ⟨_,_,_,h⟩:=h;exact .inl h)
 case fieldAddr t y j =>
  unfold IC at h
  repeat' split at h
  all_goals first|exact h.elim|exact .inl h.2
 case field t y j =>
  unfold Nu at h
  repeat' split at h
  all_goals first|exact h.elim|exact .inl h.2
 case indexAddr t y z =>
  unfold Au at h
  repeat' split at h
  all_goals first|exact h.elim|exact .inl h.2|exact .inl h.2.2|(obtain ⟨_,_,_,h⟩:=h;exact .inl h)
 case index t y z =>
  unfold Ns at h
  repeat' split at h
  all_goals first|exact h.elim|exact .inl h.2|exact .inl h.2.2|(obtain ⟨_,_,_,h⟩:=h;exact .inl h)
 case extract y j =>
  repeat' split at h
  all_goals first|exact h.elim|exact .inl h.2
 case call c =>
  split at h
  ·split at h<;>try exact h.elim
   unfold Gs at h
   repeat' split at h
   all_goals first|exact h.elim|(obtain ⟨_,_,_,h⟩:=h;exact .inl h)
  ·rename_i bi hc
   obtain ⟨callee,args,argTypes⟩:=c
   simp only at hc h
   subst hc
   unfold AR at h
   split at h<;>try exact h.elim
   ·split at h<;>try exact h.elim
    unfold DS at h
    repeat' split at h
    all_goals first|exact h.elim|exact .inl h.2|(obtain ⟨_,_,_,h⟩:=h;exact .inl h)
   ·split at h<;>try exact h.elim
    split at h
    ·unfold yX at h
     repeat' split at h
     all_goals try exact h.elim
     iterate 2
      rename_i hs _
      obtain ⟨_,_,_,h⟩:=h
      exact .inr (.inr (.inr ⟨rfl,rfl,_,_,_,h,_,hs,rfl⟩))
     all_goals
      obtain ⟨_,_,_,h⟩:=h
      exact .inr (.inl ⟨rfl,_,h⟩)
    ·unfold yU at h
     split at h<;>try exact h.elim
     ·repeat' split at h
      all_goals try exact h.elim
      obtain ⟨_,_,_,h⟩:=h
      exact .inr (.inl ⟨rfl,_,h⟩)
     split at h<;>try exact h.elim
     rename_i hs
     repeat' split at h
     all_goals try exact h.elim
     obtain ⟨_,_,_,h⟩:=h
     exact .inr (.inr (.inr ⟨rfl,rfl,_,_,_,h,_,hs,rfl⟩))
   ·split at h<;>try exact h.elim
    split at h<;>try exact h.elim
    unfold Bj at h
    repeat' split at h
    all_goals try exact h.elim
    rename_i hs _
    obtain ⟨_,_,_,h⟩:=h
    exact .inr (.inr (.inl ⟨rfl,_,_,h,_,hs,rfl⟩))
   ·split at h<;>try exact h.elim
    unfold A8 at h
    repeat' split at h
    all_goals try exact h.elim
    rename_i hs _
    obtain ⟨_,_,_,h⟩:=h
    exact .inr (.inr (.inl ⟨rfl,_,_,h,_,hs,rfl⟩))
   ·split at h<;>try exact h.elim
    all_goals
     (first|unfold Hl at h|unfold GI at h)
     repeat' split at h
     all_goals first|exact h.elim|exact .inl h.2
   ·split at h<;>try exact h.elim
    all_goals
     (first|unfold Hl at h|unfold GI at h)
     repeat' split at h
     all_goals first|exact h.elim|exact .inl h.2
   ·split at h<;>try exact h.elim
    unfold OH at h
    repeat' split at h
    all_goals first|exact h.elim|exact .inl h.2
  ·exact h.elim
def nf (g:Option (Tmp × SV)) (t:List SV):List SV :=
 match g with
 | some (i,v)=>t.set i v
 | none=>t
def nP (d:Option Tmp) (x:SV) (t:List SV):List SV :=
 match d with
 | some i=>t.set i x
 | none=>t
theorem Si (g:Option (Tmp × SV)) (t:List SV) (i:Nat) (h:∀j v,g=some (j,v)->j≠i):(nf g t)[i]?=t[i]?:=by
 unfold nf
 split
 ·rw [ig (h _ _ rfl)]
 ·rfl
theorem M8 (d:Option Tmp) (x:SV) (t:List SV) (i:Nat) (h:∀j,d=some j->j≠i):(nP d x t)[i]?=t[i]?:=by
 unfold nP
 split
 ·rw [ig (h _ rfl)]
 ·rfl
def qy (X:Ctx) (ops:List Oper) (o:Oper) (l:Nat) (s:St) (g:Option (Tmp × SV)) (x:SV) (u:List (Nat × Slot)):Prop :=
 match wL ops o with
 | none=>g=none/\(eJ X s l o.op).out x u
 | some (none,_)=>False
 | some (some i,want)=>∃y v,s.t[i]?=some y/\ma y=some v/\g=some (i,v) /\
  match mw want v with
  | true=>(eJ X ⟨s.t.set i v,s.b⟩ l o.op).out x u
  | false=>x=.cS []/\u=[]
theorem Dj {X:Ctx} {ops:List Oper} {o:Oper} {l:Nat} {s s':St} :
  Out X ops o l s s'↔∃g x u,qy X ops o l s g x u/\s'=⟨nP o.dst x (nf g s.t),l8 s.b u⟩:=by
 unfold Out qy
 rcases hg:wL ops o with _|⟨_|i,want⟩
 ·constructor
  ·rintro ⟨x,u,h,rfl⟩;exact ⟨none,x,u,⟨rfl,h⟩,rfl⟩
  ·rintro ⟨g,x,u,⟨rfl,h⟩,rfl⟩;exact ⟨x,u,h,rfl⟩
 ·simp
 ·constructor
  ·rintro ⟨y,v,h1,h2,h3⟩
   cases hw:mw want v<;>rw [hw] at h3<;>simp only at h3
   ·exact ⟨some (i,v),.cS [],[],⟨y,v,h1,h2,rfl,by rw [hw];exact ⟨rfl,rfl⟩⟩,h3⟩
   ·obtain ⟨x,u,h4,h5⟩:=h3
    exact ⟨some (i,v),x,u,⟨y,v,h1,h2,rfl,by rw [hw];exact h4⟩,h5⟩
  ·rintro ⟨g,x,u,⟨y,v,h1,h2,rfl,h3⟩,h5⟩
   refine ⟨y,v,h1,h2,?_⟩
   cases hw:mw want v<;>rw [hw] at h3<;>simp only at h3 ⊢
   ·obtain ⟨rfl,rfl⟩:=h3;exact h5
   ·exact ⟨x,u,h3,h5⟩
theorem ajf (g:Option (Tmp × SV)) (t:List SV):(nf g t).length=t.length:=by unfold nf;split<;>simp
theorem ajg (g:Option Tmp) (x:SV) (t:List SV):(nP g x t).length=t.length:=by unfold nP;split<;>simp
theorem Y6 {y v:SV} (h:ma y=some v):ma v=some v:=by
 unfold ma at h
 split at h<;>simp at h<;>subst h<;>rfl
theorem qy.guard {X:Ctx} {ops:List Oper} {o:Oper} {l:Nat} {s:St} {g:Option (Tmp × SV)} {x:SV} {u:List (Nat × Slot)} (h:qy X ops o l s g x u) :
  (gT ops o=none/\g=none)\/∃i y v,gT ops o=some i/\g=some (i,v)/\s.t[i]?=some y/\ma y=some v:=by
 unfold qy at h
 unfold gT
 split at h
 ·rename_i hg;rw [hg];exact .inl ⟨rfl,h.1⟩
 ·exact h.elim
 ·rename_i i want hg
  obtain ⟨y,v,h1,h2,h3,_⟩:=h
  rw [hg]
  exact .inr ⟨i,y,v,rfl,h3,h1,h2⟩
theorem qy.shape {X:Ctx} {ops:List Oper} {o:Oper} {l:Nat} {s:St} {g:Option (Tmp × SV)} {x:SV} {u:List (Nat × Slot)} (h:qy X ops o l s g x u) :
  Shape s.b l o.op u:=by
 unfold qy at h
 split at h
 ·exact Y5 X s l o.op h.2
 ·exact h.elim
 ·rename_i i want hg
  obtain ⟨y,v,h1,h2,h3,h4⟩:=h
  split at h4
  ·exact Y5 X ⟨s.t.set i v,s.b⟩ l o.op h4
  ·exact .inl h4.2
theorem XR {f:Fr} {s:St} {η:Nat->Value} {H:bB} {a:Act} {w:World} (D:Den f s η H a w) (x:Operand) {l:Nat} (h:eU (ev s x)=some l):aW s.b l≠.un:=by
 have hx:=D.ev x
 intro hq
 cases hs:ev s x<;>rw [hs] at h hx<;>simp [eU] at h<;>subst h<;>simp only [rel,hq] at hx
theorem aa7 {f:Fr} {s:St} {η:Nat->Value} {H:bB} {a:Act} {w:World} (D:Den f s η H a w) {l:Nat} (hu:s.b[l]?=some .un) (y:Slot) :
  ∀(n:Nat) (x:SV) (v:Value),rel η (aW s.b) H x v->jf (s.b.set l y) n x=jf s.b n x
 | 0,x,v,h=>rfl
 | n+1,x,v,h=>by
  have map:∀(cs:List SV) (vs:List Value),aQ η (aW s.b) H cs vs->cs.map (jf (s.b.set l y) n)=cs.map (jf s.b n):=by
   intro cs
   induction cs with
   | nil=>intro vs h;rfl
   | cons c r ih =>
    intro vs h
    simp only [aQ] at h
    obtain ⟨u,us,h1,h2,h3⟩:=h
    simp only [iE]
    rw [aa7 D hu y n c u h2,ih us h3]
  have hq:aW s.b l=.un:=by rw [cv hu];rfl
  cases x with
  | own k =>
   have hk:l≠k:=by
    rintro rfl
    simp only [rel,hq] at h
   simp only [jf,ig hk]
  | fa k sz m j =>
   have hk:l≠k:=by
    rintro rfl
    simp only [rel,hq] at h
   simp only [jf,ig hk]
  | ptr k off =>
   have hk:l≠k:=by
    rintro rfl
    simp only [rel,hq] at h
   simp only [jf,ig hk]
   split
   ·rename_i e cs hs
    simp only [rel,cv hs,Slot.live] at h
    obtain ⟨lC,vs,h3,h4,h5⟩:=D.sl k _ hs
    rw [map _ _ h5]
   ·rfl
  | gF k =>
   have hk:l≠k:=by
    rintro rfl
    simp only [rel,hq] at h
   simp only [jf,ig hk]
  | fn g cs ds =>
   simp only [jf]
   simp only [rel] at h
   obtain ⟨vs,us,h1,h2,h3⟩:=h
   rw [map _ _ h2,map _ _ h3]
  | agg cs =>
   simp only [jf]
   simp only [rel] at h
   obtain ⟨vs,h1,h2⟩:=h
   rw [map _ _ h2]
  | cS cs =>
   simp only [jf]
   simp only [rel] at h
   obtain ⟨vs,h1,h2⟩:=h
   rw [map _ _ h2]
  | _=>rfl
theorem Z6 {f:Fr} {s:St} {η:Nat->Value} {H:bB} {a:Act} {w:World} (D:Den f s η H a w) {l:Nat} (hu:s.b[l]?=some .un) (y:Slot) :
  ∀(cs:List SV) (vs:List Value),aQ η (aW s.b) H cs vs->cs.map (view (s.b.set l y))=cs.map (view s.b)
 | [],vs,h=>rfl
 | c :: r,vs,h=>by
  simp only [aQ] at h
  obtain ⟨u,us,h1,h2,h3⟩:=h
  simp only [iE,view]
  rw [aa7 D hu y 4 c u h2]
  exact congrArg _ (Z6 D hu y r us h3)
theorem akg (X:Ctx) {f:Fr} {t:List SV} {b:List Slot} (G:Good f ⟨t,b⟩) {l':Nat} {y:Slot} (kZ:b[l']?=some .un) (op:Op) (hd:deep op=true) (l:Nat) :
  eJ X ⟨t,b⟩ l op=eJ X ⟨t,b.set l' y⟩ l op:=by
 cases op<;>try (cases hd;done)
 case call c =>
  have e:∀x,ev ⟨t,b.set l' y⟩ x=ev ⟨t,b⟩ x:=λx=>by cases x<;>rfl
  obtain ⟨η,H,a,w,D⟩:=G
  simp only [eJ]
  cases hc:c.callee with
  | invoke r m=>rfl
  | builtin bi=>simp [deep,hc] at hd
  | value g =>
   have hg:=D.ev g
   have hm:c.args.toList.map (ev ⟨t,b.set l' y⟩)=c.args.toList.map (ev ⟨t,b⟩):=qM λx _=>e x
   simp only [hm,e]
   split
   ·rename_i fid first cap hv
    rw [hv] at hg
    simp only [rel] at hg
    obtain ⟨fs,cs,_,h1,h2⟩:=hg
    have ha:aQ η (aW b) H (c.args.toList.map (ev ⟨t,b⟩)) (c.args.toList.map a.eval):=by
     generalize c.args.toList=xs
     induction xs with
     | nil=>simp [aQ]
     | cons x r ih=>simp only [iE,aQ];exact ⟨_,_,rfl,D.ev x,ih⟩
    simp only [Gs]
    rw [Z6 D kZ y _ _ (iP (iP h1 ha) h2)]
   ·rfl
theorem Y7 (X:Ctx) {f:Fr} {t t':List SV} {b:List Slot} (G:Good f ⟨t,b⟩) {o:Oper} {l l':Nat} {Kz:Op} {u':List (Nat × Slot)} (wY:Shape b l' Kz u')
  (kZ:gu Kz=true->b[l']?=some .un) (hw:o7 Kz=true->uB o.op=false\/∃ys,gZ o.op=some ys/\∀y∈ys,∀q∈u',iz ⟨t,b⟩ y≠some q.1)
  (ht:∀i∈lu o.op,t[i]?=t'[i]?):eJ X ⟨t,b⟩ l o.op=eJ X ⟨t',l8 b u'⟩ l o.op:=by
 rw [<-XP X (s:=⟨t,l8 b u'⟩) (s':=⟨t',l8 b u'⟩) l o.op ht rfl]
 rcases wY with rfl|⟨ri,y,rfl⟩|⟨EA,l0,y,rfl,_⟩|⟨EA,_,l0,y,z,rfl,_⟩
 ·rfl
 ·by_cases hr:uB o.op=false
  ·exact SL X t b _ l o.op hr
  ·cases hd:deep o.op with
   | true=>exact akg X G (kZ ri) o.op hd l
   | false =>
    refine amx X t b _ l o.op hd ?_
    intro x _ k hk
    obtain ⟨η,H,a,w,D⟩:=G
    have bW:=XR D x hk
    have:l'≠k:=by
     rintro rfl
     exact bW (by rw [cv (kZ ri)];rfl)
    simp only [l8]
    rw [ig this]
 ·rcases hw EA with h|⟨z,h1,h2⟩
  ·exact SL X t b _ l o.op h
  ·refine aa6 X t b _ l o.op h1 λe he k hk=>?_
   simp only [l8]
   rw [ig (by rintro rfl;exact h2 e he (_,y) (by simp) hk)]
 ·rcases hw EA with h|⟨z',h1,h2⟩
  ·exact SL X t b _ l o.op h
  ·refine aa6 X t b _ l o.op h1 λe he k hk=>?_
   simp only [l8]
   rw [ig (by rintro rfl;exact h2 e he (_,z) (by simp) hk),ig (by rintro rfl;exact h2 e he (_,y) (by simp) hk)]
theorem alb {y v:SV} (h:ma y=some v):eU y=eU v:=by
 unfold ma at h
 split at h<;>simp at h<;>subst h<;>rfl
theorem IE {s:St} {i:Nat} {y v:SV} (h1:s.t[i]?=some y) (h2:ma y=some v) (b:List Slot) (t:Tmp):iz ⟨s.t.set i v,b⟩ t=iz s t:=by
 unfold iz
 simp only
 rw [gY]
 split
 ·rename_i e;subst e
  rw [if_pos (bt.1 h1).1,h1]
  simp [alb h2]
 ·rfl
theorem Y8 {t:List SV} {b b':List Slot} {d:Option Tmp} {x:SV} {i:Tmp} (h:∀j,d=some j->j≠i):iz ⟨nP d x t,b⟩ i=iz ⟨t,b'⟩ i:=by
 unfold iz;simp only;rw [M8 _ _ _ _ h]
section
variable {P:Program} {X:Ctx} {f:Fr} {s:St}
theorem Good.guard {y v:SV} {i:Nat} (G:Good f s) (h1:s.t[i]?=some y) (h2:ma y=some v):Good f ⟨s.t.set i v,s.b⟩:=by
 obtain ⟨η,H,a,w,D⟩:=G
 exact ⟨η,H,a,w,(D.guard h1 h2).1⟩
theorem qy.ji {X:Ctx} {ops:List Oper} {o:Oper} {l:Nat} {s:St} {g:Option (Tmp × SV)} {x:SV} {u:List (Nat × Slot)} (h:qy X ops o l s g x u) {t:Tmp} (hm:kD o.op=some t) :
  ∀q∈u,iz s t=some q.1\/(gu o.op=true/\q.1=l):=by
 unfold qy at h
 split at h
 ·exact Y4 X s l o.op h.2 hm
 ·exact h.elim
 ·obtain ⟨y,v,h1,h2,h3,h4⟩:=h
  split at h4
  ·intro q hq
   have:=Y4 X _ l o.op h4 hm q hq
   rwa [IE h1 h2] at this
  ·obtain ⟨_,rfl⟩:=h4
   simp
theorem Y9 (G:Good f s) {ops:List Oper} {o o':Oper} {l l':Nat} (ap:y6 ops o' o) (gB:Sep o' o s) (kZ:gu o'.op=true->s.b[l']?=some .un)
  {g':Option (Tmp × SV)} {x':SV} {u':List (Nat × Slot)} (h':qy X ops o' l' s g' x' u') (g:Option (Tmp × SV)) (x:SV) (u:List (Nat × Slot)) :
  qy X ops o l s g x u↔qy X ops o l ⟨nP o'.dst x' (nf g' s.t),l8 s.b u'⟩ g x u:=by
 have wY:=h'.shape
 have kq:=h'.guard
 have DW:=λt hm=>h'.ji (t:=t) hm
 have hw:o7 o'.op=true->uB o.op=false\/∃ys,gZ o.op=some ys/\∀y∈ys,∀q∈u',iz s y≠some q.1:=by
  intro EA
  rcases gB EA with h|⟨x,ys,h0,h3,h⟩
  ·exact .inl h
  ·refine .inr ⟨ys,h3,λy hy q hq=>?_⟩
   rcases DW x h0 q hq with h1|⟨h1,h2⟩
   ·exact h _ h1 y hy
   ·obtain ⟨η,H,a,w,D⟩:=G
    intro hk
    refine XR D (.tmp y) (show eU (ev s (.tmp y))=some l' by rw [<-h2];exact hk) ?_
    rw [cv (kZ h1)];rfl
 have ht:∀i∈lu o.op,(nP o'.dst x' (nf g' s.t))[i]?=s.t[i]?:=by
  intro i hi
  rw [M8 _ _ _ _ (λj hj e=>ap.d1 j hj (e ▸ hi)),Si]
  intro j v hv e
  subst e
  rcases kq with ⟨_,h⟩|⟨j',y,v',h1,h2,_⟩
  ·rw [h] at hv;cases hv
  ·rw [h2] at hv
   simp at hv
   exact ap.g1 j' h1 (hv.1 ▸ hi)
 unfold qy
 split
 ·rw [Y7 X (t:=s.t) (b:=s.b) (l:=l) G wY kZ hw (λi hi=>(ht i hi).symm)]
 ·exact yP
 ·rename_i i want hg
  have jX:gT ops o=some i:=by simp [gT,hg]
  have hd:∀j,o'.dst=some j->j≠i:=λj hj e=>ap.d2 j hj (e ▸ jX)
  have hi:(nP o'.dst x' (nf g' s.t))[i]?=(nf g' s.t)[i]?:=M8 _ _ _ _ hd
  have key:∀v,(∃y,s.t[i]?=some y/\ma y=some v)↔(∃y,(nP o'.dst x' (nf g' s.t))[i]?=some y/\ma y=some v):=by
   intro v
   rw [hi]
   by_cases jt:∃v',g'=some (i,v')
   ·obtain ⟨v',e⟩:=jt
    rcases kq with ⟨_,h⟩|⟨j,y,v2,h1,h2,h3,h4⟩
    ·rw [h] at e;cases e
    ·rw [h2] at e
     simp at e
     obtain ⟨rfl,rfl⟩:=e
     rw [h2]
     have aP:=(bt.1 h3).1
     simp only [nf,qc aP]
     constructor
     ·rintro ⟨y',e1,e2⟩
      rw [h3] at e1;simp at e1;subst e1
      rw [h4] at e2;simp at e2;subst e2
      exact ⟨_,rfl,Y6 h4⟩
     ·rintro ⟨y',e1,e2⟩
      simp at e1;subst e1
      rw [Y6 h4] at e2;simp at e2;subst e2
      exact ⟨y,h3,h4⟩
   ·rw [Si]
    intro j v' hv e
    subst e
    exact jt ⟨v',hv⟩
  have GK:∀v,(∃y,s.t[i]?=some y/\ma y=some v)->eJ X ⟨s.t.set i v,s.b⟩ l o.op=eJ X ⟨(nP o'.dst x' (nf g' s.t)).set i v,l8 s.b u'⟩ l o.op:=by
   rintro v ⟨y,h1,h2⟩
   refine Y7 X (t:=s.t.set i v) (b:=s.b) (l:=l) (G.guard h1 h2) wY kZ (λEA=>(hw EA).imp id λ⟨ys',a1,a2⟩=>⟨ys',a1,λy' oC q hq=>by rw [IE h1 h2];exact a2 y' oC q hq⟩) (λk hk=>?_)
   by_cases VJ:i=k
   ·subst VJ
    have aP:=(bt.1 h1).1
    rw [qc aP,qc (by rw [ajg,ajf];exact aP)]
   ·rw [ig VJ,ig VJ,ht k hk]
  constructor
  ·rintro ⟨y,v,h1,h2,h3,h4⟩
   obtain ⟨y',e1,e2⟩:=(key v).1 ⟨y,h1,h2⟩
   refine ⟨y',v,e1,e2,h3,?_⟩
   rw [<-GK v ⟨y,h1,h2⟩]
   exact h4
  ·rintro ⟨y',v,e1,e2,h3,h4⟩
   obtain ⟨y,h1,h2⟩:=(key v).2 ⟨y',e1,e2⟩
   refine ⟨y,v,h1,h2,h3,?_⟩
   rw [GK v ⟨y,h1,h2⟩]
   exact h4
theorem XS (l:Nat) (x:Slot):∀(u:List (Nat × Slot)) (b:List Slot),(∀p∈u,p.1≠l)->l8 (b.set l x) u=(l8 b u).set l x
 | [],b,_=>rfl
 | (k,y) :: u,b,h=>by
  simp only [l8]
  rw [RJ _ _ (h (k,y) (by simp)).symm]
  exact XS l x u _ λp hp=>h p (by simp [hp])
theorem XJ:∀(u v:List (Nat × Slot)) (b:List Slot),(∀p∈u,∀q∈v,p.1≠q.1)->l8 (l8 b u) v=l8 (l8 b v) u
 | [],v,b,_=>rfl
 | (l,x) :: u,v,b,h=>by
  simp only [l8]
  rw [XJ u v _ λp hp q hq=>h p (by simp [hp]) q hq]
  rw [XS l x v b λq hq=>(h (l,x) (by simp) q hq).symm]
theorem RQ (t:List SV) (i j:Nat) (x y:SV) (h:i≠j):(t.set i x).set j y=(t.set j y).set i x:=RJ _ _ h
theorem swap (G:Good f s) {ops:List Oper} {p j:Oper} {lp lj:Nat} (ap:y6 ops p j) (sp:Sep p j s) (sj:Sep j p s) (yf:gu p.op=true->s.b[lp]?=some .un) (VK:gu j.op=true->s.b[lj]?=some .un)
  (bW:gu p.op=true->gu j.op=true->lp≠lj) {s1 s2:St} (h1:Out X ops p lp s s1) (h2:Out X ops j lj s1 s2):∃Hr,Out X ops j lj s Hr/\Out X ops p lp Hr s2:=by
 rw [Dj] at h1 h2
 obtain ⟨gp,xp,up,hp,rfl⟩:=h1
 obtain ⟨gj,xj,uj,hj,rfl⟩:=h2
 have wZ:=(Y9 G ap sp yf hp gj xj uj).2 hj
 have ra:=(Y9 G ap.symm sj VK wZ gp xp up).1 hp
 refine ⟨_,Dj.2 ⟨gj,xj,uj,wZ,rfl⟩,Dj.2 ⟨gp,xp,up,ra,?_⟩⟩
 congr 1
 ·
  simp only
  have w6:=hp.guard
  have KL:=wZ.guard
  have c1:∀(d:Option Tmp) (x:SV) (g:Option (Tmp × SV)) (t:List SV),(∀i k v,d=some i->g=some (k,v)->i≠k)->nf g (nP d x t)=nP d x (nf g t):=by
   intro d x g t h
   unfold nf nP
   cases d<;>cases g<;>try rfl
   rename_i i kv
   obtain ⟨k,v⟩:=kv
   exact RQ _ _ _ _ _ (h i k v rfl rfl)
  have c2:∀(d e:Option Tmp) (x y:SV) (t:List SV),(∀i k,d=some i->e=some k->i≠k)->nP e y (nP d x t)=nP d x (nP e y t):=by
   intro d e x y t h
   unfold nP
   cases d<;>cases e<;>try rfl
   rename_i i k
   exact RQ _ _ _ _ _ (h i k rfl rfl)
  have c3:nf gj (nf gp s.t)=nf gp (nf gj s.t):=by
   rcases w6 with ⟨_,rfl⟩|⟨i,y,v,a1,rfl,a3,a4⟩
   ·rfl
   rcases KL with ⟨_,rfl⟩|⟨k,y',v',b1,rfl,b3,b4⟩
   ·rfl
   by_cases e:i=k
   ·subst e
    rw [a3] at b3;simp at b3;subst b3
    rw [a4] at b4;simp at b4;subst b4
    rfl
   ·exact RQ _ _ _ _ _ e
  rw [c1 p.dst xp gj _ (by
   rintro i k v hd hg rfl
   rcases KL with ⟨_,h⟩|⟨k,y',v',b1,h,_⟩
   ·rw [h] at hg;cases hg
   ·rw [h] at hg;simp at hg;exact ap.d2 i hd (by rw [b1,hg.1]))]
  rw [c2 p.dst j.dst xp xj _ (by rintro i k hd he rfl;exact ap.d3 i hd he)]
  rw [c1 j.dst xj gp _ (by
   rintro i k v hd hg rfl
   rcases w6 with ⟨_,h⟩|⟨k,y',v',b1,h,_⟩
   ·rw [h] at hg;cases hg
   ·rw [h] at hg;simp at hg;exact ap.e2 i hd (by rw [b1,hg.1]))]
  rw [c3]
 ·
  refine XJ up uj s.b ?_
  have gB:=hp.shape
  have hsj:=wZ.shape
  have e9:∀{b:List Slot} {l:Nat} {op:Op} {u:List (Nat × Slot)},Shape b l op u->∀q∈u,(q.1=l/\gu op=true)\/(o7 op=true/\Tg b q.1):=by
   rintro b l op u (rfl|⟨h,y,rfl⟩|⟨h,l0,y,rfl,h2⟩|⟨h,h3,l0,y,z,rfl,h2⟩) q hq
   ·simp at hq
   ·simp at hq;subst hq;exact .inl ⟨rfl,h⟩
   ·simp at hq;subst hq;exact .inr ⟨h,h2⟩
   ·simp at hq
    rcases hq with rfl|rfl
    ·exact .inr ⟨h,h2⟩
    ·exact .inl ⟨rfl,h3⟩
  intro q hq r hr e
  rcases e9 gB q hq with ⟨e1,a1⟩|⟨w1,z1,l1,l1'⟩<;>rcases e9 hsj r hr with ⟨e2,a2⟩|⟨w2,z2,l2,l2'⟩
  ·exact bW a1 a2 (by rw [<-e1,<-e2,e])
  ·rw [<-e,e1,yf a1] at l2
   simp at l2;subst l2;cases l2'
  ·rw [e,e2,VK a2] at l1
   simp at l1;subst l1;cases l1'
  ·have rd:∀{o:Oper},o7 o.op=true->uB o.op=true:=by
    intro o w
    cases hjj:o.op<;>rw [hjj] at w<;>simp [o7,ZY] at w<;>rfl
   rcases sp w1 with h|⟨x,ys,h,o5,aru⟩
   ·rw [rd w2] at h;cases h
   rcases sj w2 with h'|⟨x',ys',h',aeq,_⟩
   ·rw [rd w1] at h';cases h'
   have live:∀{o:Oper} {l k:Nat},(gu o.op=true->s.b[l]?=some .un)->gu o.op=true/\k=l->s.b[k]?=some z1\/s.b[k]?=some z2->False:=by
    rintro o l k hu ⟨ha,rfl⟩ (h|h)
    ·rw [hu ha] at h;simp at h;subst h;cases l1'
    ·rw [hu ha] at h;simp at h;subst h;cases l2'
   rcases hp.ji h q hq with a1|a1
   ·rcases wZ.ji h' r hr with a2|a2
    ·exact aru _ a1 x' (ZZ h' o5) (by rw [a2,e])
    ·exact live VK a2 (.inr l2)
   ·exact live yf a1 (.inl l1)
theorem Ys {o:Oper} {l:Nat} {x:SV} {u:List (Nat × Slot)} (h:(eJ X s l o.op).out x u) (hn:newVar o.op=true) (hR:∀f S,X.sp f=some S->∀a,LF (S.res a)):∀k,eU x=some k->gu o.op=true/\k=l:=by
 cases ho:o.op<;>rw [ho] at hn h<;>try (cases hn;done)
 case call c =>
  obtain ⟨callee,args,argTypes⟩:=c
  cases callee with
  | value g =>
   simp only [eJ] at h
   split at h<;>try exact h.elim
   unfold Gs at h
   split at h<;>try exact h.elim
   rename_i S hS
   intro k hk
   exfalso
   have:∃a,x=S.res a:=by
    split at h
    ·obtain ⟨a,_,h1,_⟩:=h;exact ⟨a,h1⟩
    ·obtain ⟨a,_,h1,_⟩:=h;exact ⟨a,h1⟩
   obtain ⟨a,rfl⟩:=this
   have h1:=hR _ _ hS a
   cases hq:S.res a<;>rw [hq] at h1 hk<;>simp [LF,eU] at h1 hk
  | invoke r m=>cases hn
  | builtin bi =>
   cases bi<;>try (cases hn;done)
   simp only [eJ,AR] at h
   split at h<;>try exact h.elim
   split at h
   all_goals
    first|unfold yX at h|unfold yU at h
    repeat' split at h
    all_goals try exact h.elim
    all_goals
     obtain ⟨_,_,rfl,_⟩:=h
     intro k hk
     exact ⟨rfl,by simpa [eU] using hk.symm⟩
 case buildSlice t n ps =>
  simp only [eJ] at h
  unfold IA at h
  repeat' split at h
  all_goals try exact h.elim
  all_goals
   intro k hk
   first|obtain ⟨rfl,_⟩:=h|obtain ⟨_,_,rfl,_⟩:=h
   first|(cases hk;done)|exact ⟨rfl,by simpa [eU] using hk.symm⟩
 case makeSlice t n m =>
  simp only [eJ] at h
  unfold ID at h
  repeat' split at h
  all_goals try exact h.elim
  all_goals
   intro k hk
   obtain ⟨_,rfl,_⟩:=h
   exact ⟨rfl,by simpa [eU] using hk.symm⟩
 case makeMap t r =>
  simp only [eJ] at h
  unfold Jb at h
  repeat' split at h
  all_goals try exact h.elim
  all_goals
   intro k hk
   obtain ⟨rfl,_⟩:=h
   exact ⟨rfl,by simpa [eU] using hk.symm⟩
 case range t y =>
  simp only [eJ] at h
  unfold Jx at h
  repeat' split at h
  all_goals try exact h.elim
  all_goals
   intro k hk
   obtain ⟨rfl,_⟩:=h
   exact ⟨rfl,by simpa [eU] using hk.symm⟩
 all_goals
  simp only [eJ] at h
  split at h<;>try exact h.elim
  intro k hk
  obtain ⟨rfl,_⟩:=h
  exact ⟨rfl,by simpa [eU] using hk.symm⟩
theorem qv.out {ops:List Oper} {o:Oper} {l:Nat} {s1:St} {Ks:Tmp->List Nat} (FA:qv ops Ks s) (mo:o∈ops) (hl:vk ops Ks o l) (hR:∀f S,X.sp f=some S->∀a,LF (S.res a)) (h:Out X ops o l s s1):qv ops Ks s1:=by
 rw [Dj] at h
 obtain ⟨g,x,u,hr,rfl⟩:=h
 refine ⟨λt A ht k hk=>?_,FA.cl,FA.PC⟩
 have GL:(∀j,o.dst=some j->j≠t)->k∈Ks t:=by
  intro hd
  rw [Y8 (b':=s.b) hd] at hk
  rcases hr.guard with ⟨_,rfl⟩|⟨i,y,v,_,rfl,h3,h4⟩
  ·exact FA.ji t A ht k hk
  ·rw [show iz ⟨nf (some (i,v)) s.t,s.b⟩ t=iz s t from IE h3 h4 s.b t] at hk
   exact FA.ji t A ht k hk
 by_cases hd:o.dst=some t
 ·have hx:eU x=some k:=by
   unfold iz at hk
   simp only [hd,nP] at hk
   by_cases aP:t < (nf g s.t).length
   ·rw [qc aP] at hk;exact hk
   ·rw [nF (by rw [ou];exact Nat.le_of_not_lt aP)] at hk;cases hk
  cases hn:newVar o.op with
  | true =>
   have dG:gu o.op=true/\k=l:=by
    unfold qy at hr
    split at hr
    ·exact Ys hr.2 hn hR k hx
    ·exact hr.elim
    ·obtain ⟨y,v,h1,h2,h3,h4⟩:=hr
     split at h4
     ·exact Ys h4 hn hR k hx
     ·rw [h4.1] at hx;cases hx
   rw [dG.2];exact hl t A hd hn dG.1 ht
  | false =>
   rcases Jh hd mo (show sU (lV ops 7) t ops=some A from ht) with h|⟨z,B,h1,h2,h3⟩
   ·rw [h] at hn;cases hn
   obtain ⟨⟨B',hB'⟩,J0⟩:=FA.cl o mo t z A hd hn h1 ht
   refine J0 k (FA.ji z B' hB' k ?_)
   unfold qy at hr
   split at hr
   ·exact Z5 X s l o.op hr.2 h1 k hx
   ·exact hr.elim
   ·obtain ⟨y,v,g1,g2,g3,g4⟩:=hr
    split at g4
    ·have:=Z5 X _ l o.op g4 h1 k hx
     rwa [IE g1 g2] at this
    ·rw [g4.1] at hx;cases hx
 ·exact GL λj hj e=>hd (by rw [hj,e])
theorem anL {ops:List Oper} {o:Oper} {l k:Nat} {s1:St} (h:Out X ops o l s s1) (hk:s.b[k]?=some .un) (bW:gu o.op=true->l≠k):s1.b[k]?=some .un:=by
 rw [Dj] at h
 obtain ⟨g,x,u,hr,rfl⟩:=h
 simp only
 rcases hr.shape with rfl|⟨h,y,rfl⟩|⟨h,l0,y,rfl,z,h2,VL⟩|⟨h,h3,l0,y,z,rfl,z',h2,VL⟩
 ·exact hk
 ·simp only [l8];rw [ig (bW h)];exact hk
 ·simp only [l8]
  rw [ig (by rintro rfl;rw [hk] at h2;simp at h2;subst h2;cases VL)];exact hk
 ·simp only [l8]
  rw [ig (bW h3),ig (by rintro rfl;rw [hk] at h2;simp at h2;subst h2;cases VL)];exact hk
end
end Go.Vc
