import Derived.Test.YthnhbemmlfaihaaR5
set_option linter.unusedVariables false
set_option linter.unusedSimpArgs false
set_option maxRecDepth 10000
set_option maxHeartbeats 64000000
namespace Go.Vc
open Go
def jD (op:Op):List Tmp:=op.operands.toList.filterMap λ|.tmp t=>some t|_=>none
def gT (ops:List Oper) (o:Oper):Option Tmp:=(tK ops o).bind (·.1)
def rj:Op->Bool
 | .load ..|.store ..|.indexAddr ..|.slice ..|.call _|.lookup ..|.mapUpdate ..|.insert ..|.entry _=>true
 | _=>false
def TP:Op->Bool
 | .call c=>match c.callee with
  | .builtin .append=>true
  | .builtin .copy=>true
  | .builtin .clear=>true
  | _=>false
 | _=>false
def mP:Op->Bool
 | .store ..|.mapUpdate ..|.insert ..=>true
 | op=>TP op
def deep:Op->Bool
 | .call c=>match c.callee with
  | .value _=>true
  | _=>false
 | _=>false
def tmpsOf (xs:List Operand):List Tmp:=xs.filterMap λ|.tmp t=>some t|_=>none
def xS:List Operand->Option Tmp
 | .tmp t :: _=>some t
 | _=>none
def je:Op->Option Tmp
 | .store _ x _=>match x with|.tmp t=>some t|_=>none
 | .mapUpdate _ x _ _=>match x with|.tmp t=>some t|_=>none
 | .insert _ x _ _=>match x with|.tmp t=>some t|_=>none
 | .call c=>match c.callee with
  | .builtin .append=>xS c.args.toList
  | .builtin .copy=>xS c.args.toList
  | .builtin .clear=>xS c.args.toList
  | _=>none
 | _=>none
def fO:Op->Option (List Tmp)
 | .load _ x=>match x with|.tmp t=>some [t]|_=>none
 | .store _ x _=>match x with|.tmp t=>some [t]|_=>none
 | .lookup _ x _ _=>match x with|.tmp t=>some [t]|_=>none
 | .entry x=>match x with|.tmp t=>some [t]|_=>none
 | .mapUpdate _ x _ _=>match x with|.tmp t=>some [t]|_=>none
 | .insert _ x _ _=>match x with|.tmp t=>some [t]|_=>none
 | .indexAddr _ x _=>match x with|.tmp t=>some [t]|_=>none
 | .slice _ x _ _ mx=>match x,mx with|.tmp t,none=>some [t]|_,_=>none
 | .call c=>match c.callee with
  | .builtin _=>some (tmpsOf c.args.toList)
  | _=>none
 | _=>none
theorem abG {xs:List Operand} {t:Tmp} (h:xS xs=some t):t∈tmpsOf xs:=by
 unfold xS at h
 split at h
 ·simp at h;subst h;simp [tmpsOf]
 ·cases h
theorem TQ {op:Op} {t:Tmp} {ys:List Tmp} (h:je op=some t) (h':fO op=some ys):t∈ys:=by
 cases op<;>try (cases h;done)
 case store ty x z=>cases x<;>simp [je] at h;subst h;simp [fO] at h';subst h';simp
 case mapUpdate ty x y z=>cases x<;>simp [je] at h;subst h;simp [fO] at h';subst h';simp
 case insert ty x y z=>cases x<;>simp [je] at h;subst h;simp [fO] at h';subst h';simp
 case call c =>
  cases hc:c.callee with
  | value g=>simp [je,hc] at h
  | invoke r m=>simp [je,hc] at h
  | builtin b =>
   simp only [fO,hc,pX] at h'
   subst h'
   cases b<;>simp [je,hc] at h<;>exact abG h
def newVar:Op->Bool
 | .alloc _|.box ..|.buildSlice ..|.makeSlice ..|.makeMap ..|.range ..=>true
 | .call c=>match c.callee with
  | .builtin .append=>true
  | .value _=>true
  | _=>false
 | _=>false
def tL:Op->Option Tmp
 | .fieldAddr _ x _=>match x with|.tmp t=>some t|_=>none
 | .indexAddr _ x _=>match x with|.tmp t=>some t|_=>none
 | .nilCheck x=>match x with|.tmp t=>some t|_=>none
 | .move x=>match x with|.tmp t=>some t|_=>none
 | .assign x=>match x with|.tmp t=>some t|_=>none
 | .slice _ x _ _ mx=>match x,mx with|.tmp t,none=>some t|_,_=>none
 | _=>none
def EZ (o:Oper) (t:Tmp):Bool:=match o.dst with|some d=>Nat.beq d t|none=>false
theorem Mi {o:Oper} {t:Tmp}:EZ o t=true↔o.dst=some t:=by
 unfold EZ
 cases o.dst with
 | none=>simp
 | some d=>simp only [pX];exact ⟨l6,λh=>h ▸ Me d⟩
def qh (
     r:Tmp->Option (List Tmp)) (t:Tmp):List Oper->Option (List Tmp)
 | []=>some [t]
 | o :: os=>match EZ o t with
  | false=>qh r t os
  | true=>match newVar o.op with
   | true=>qh r t os
   | false=>match tL o.op with
    | none=>none
    | some x=>match r x,qh r t os with
     | some a,some b=>some (a++b)
     | _,_=>none
def j8 (ops:List Oper):Nat->Tmp->Option (List Tmp)
 | 0,_=>none
 | n+1,t=>qh (j8 ops n) t ops
theorem HO {r r':Tmp->Option (List Tmp)} (h:∀x a,r x=some a->r' x=some a) {t:Tmp}:∀{os:List Oper} {A:List Tmp},qh r t os=some A->qh r' t os=some A
 | [],A,e=>e
 | o :: os,A,e=>by
  unfold qh at e ⊢
  split at e
  ·exact HO h e
  ·split at e
   ·exact HO h e
   ·split at e
    ·cases e
    ·split at e
     ·rename_i a b h1 h2
      simp only [h _ _ h1,HO h h2]
      exact e
     ·cases e
theorem TR {ops:List Oper}:∀{n:Nat} {t:Tmp} {A:List Tmp},j8 ops n t=some A->j8 ops (n+1) t=some A
 | 0,t,A,h=>by cases h
 | n+1,t,A,h=>HO (λ_ _=>TR) h
theorem HP {r:Tmp->Option (List Tmp)} {t:Tmp}:∀{os:List Oper} {A:List Tmp},qh r t os=some A->t∈A
 | [],A,e=>by cases e;simp
 | o :: os,A,e=>by
  unfold qh at e
  split at e
  ·exact HP e
  ·split at e
   ·exact HP e
   ·split at e
    ·cases e
    ·split at e
     ·rename_i a b h1 h2
      cases e
      exact xH _ (HP h2)
     ·cases e
theorem EA {r:Tmp->Option (List Tmp)} {t:Tmp} {o:Oper} (hd:o.dst=some t):∀{os:List Oper} {A:List Tmp},o∈os->qh r t os=some A ->
  newVar o.op=true\/∃x B,tL o.op=some x/\r x=some B/\∀y∈B,y∈A
 | [],A,h,_=>by cases h
 | o' :: os,A,h,e=>by
  unfold qh at e
  split at e
  ·rename_i h1
   rcases cx.1 h with rfl|h
   ·rw [Mi.2 hd] at h1;cases h1
   ·exact EA hd h e
  ·split at e
   ·rename_i h1 h2
    rcases cx.1 h with rfl|h
    ·exact .inl h2
    ·exact EA hd h e
   ·split at e
    ·cases e
    ·rename_i x h3
     split at e
     ·rename_i a b h4 h5
      cases e
      rcases cx.1 h with rfl|h
      ·exact .inr ⟨x,a,h3,h4,λy hy=>uB _ hy⟩
      ·rcases EA hd h h5 with h6|⟨x,B,h6,h7,h8⟩
       ·exact .inl h6
       ·exact .inr ⟨x,B,h6,h7,λy hy=>xH _ (h8 y hy)⟩
     ·cases e
def tM:List Nat->List Nat->Bool
 | [],_=>true
 | a :: r,l=>(l.all λb=>!Nat.beq a b)&&tM r l
theorem UF:∀{x y:List Nat},tM x y=true->∀l∈x,l∉y
 | [],_,_,l,hl=>by cases hl
 | a :: r,y,h,l,hl=>by
  simp only [tM,cu] at h
  rcases cx.1 hl with rfl|hl
  ·intro hy
   have:=im.1 h.1 l hy
   simp at this
  ·exact UF h.2 l hl
def zN (ops:List Oper) (A:List Tmp):List Tmp->Bool
 | []=>true
 | y :: r=>(match j8 ops 8 y with
  | some B=>tM A B
  | none=>false)&&zN ops A r
def J1 (ops:List Oper) (p j:Oper):Bool :=
 match je p.op,fO j.op with
 | some x,some ys=>match j8 ops 8 x with
  | some A=>zN ops A ys
  | none=>false
 | _,_=>false
structure CZ (ops:List Oper) (p j:Oper) (x:Tmp) (ys:List Tmp):Prop where
 p:je p.op=some x
 j:fO j.op=some ys
 ax:∃A,j8 ops 8 x=some A
 d:∀A,j8 ops 8 x=some A->∀y∈ys,∃B,j8 ops 8 y=some B/\tM A B=true
theorem SU {ops:List Oper} {A:List Tmp}:∀{ys:List Tmp},zN ops A ys=true->∀y∈ys,∃B,j8 ops 8 y=some B/\tM A B=true
 | [],_,y,hy=>by cases hy
 | z :: r,h,y,hy=>by
  simp only [zN,cu] at h
  rcases cx.1 hy with rfl|hy
  ·have h1:=h.1
   split at h1
   ·rename_i B hB;exact ⟨B,hB,h1⟩
   ·cases h1
  ·exact SU h.2 y hy
theorem TS {ops:List Oper} {p j:Oper} (h:J1 ops p j=true):∃x ys,CZ ops p j x ys:=by
 unfold J1 at h
 split at h
 ·rename_i x ys h1 h2
  split at h
  ·rename_i A h3
   exact ⟨x,ys,h1,h2,⟨A,h3⟩,λA' e1=>by rw [h3] at e1;cases e1;exact SU h⟩
  ·cases h
 ·cases h
def Iu (ops:List Oper) (p j:Oper):Bool :=
 (match p.dst with|some d=>!(jD j.op).contains d&&gT ops j != some d&&j.dst != some d|none=>true) &&
 (match j.dst with|some d=>!(jD p.op).contains d&&gT ops p != some d|none=>true) &&
 (match gT ops p with|some g=>!(jD j.op).contains g|none=>true) &&
 (match gT ops j with|some g=>!(jD p.op).contains g|none=>true)
def indep (ops:List Oper) (p j:Oper):Bool :=
 Iu ops p j&&((!(mP p.op&&rj j.op)||J1 ops p j)&&(!(mP j.op&&rj p.op)||J1 ops j p))
structure v8 (ops:List Oper) (p j:Oper):Prop where
 d1:∀d,p.dst=some d->d∉jD j.op
 d2:∀d,p.dst=some d->gT ops j≠some d
 d3:∀d,p.dst=some d->j.dst≠some d
 e1:∀d,j.dst=some d->d∉jD p.op
 e2:∀d,j.dst=some d->gT ops p≠some d
 g1:∀g,gT ops p=some g->g∉jD j.op
 g2:∀g,gT ops j=some g->g∉jD p.op
structure tC (ops:List Oper) (p j:Oper):Prop where
 t:v8 ops p j
 w1:mP p.op=true->rj j.op=false\/∃x ys,CZ ops p j x ys
 w2:mP j.op=true->rj p.op=false\/∃x ys,CZ ops j p x ys
theorem RP {ops:List Oper} {p j:Oper} (h:Iu ops p j=true):v8 ops p j:=by
 unfold Iu at h
 simp only [cu] at h
 obtain ⟨⟨⟨h1,h2⟩,h3⟩,h4⟩:=h
 constructor
 ·intro d hd;rw [hd] at h1;simp at h1;exact h1.1.1
 ·intro d hd;rw [hd] at h1;simp at h1;exact h1.1.2
 ·intro d hd;rw [hd] at h1;simp at h1;exact h1.2
 ·intro d hd;rw [hd] at h2;simp at h2;exact h2.1
 ·intro d hd;rw [hd] at h2;simp at h2;exact h2.2
 ·intro g hg;rw [hg] at h3;simpa using h3
 ·intro g hg;rw [hg] at h4;simpa using h4
theorem Hq {ops:List Oper} {p j:Oper} (h:indep ops p j=true):tC ops p j:=by
 unfold indep at h
 simp only [cu,oO,nY,Bool.and_eq_false_iff] at h
 obtain ⟨h0,h5,h6⟩:=h
 refine ⟨RP h0,?_,?_⟩
 ·intro hw
  rcases h5 with (h5|h5)|h
  ·rw [hw] at h5;cases h5
  ·exact .inl h5
  ·exact .inr (TS h)
 ·intro hw
  rcases h6 with (h6|h6)|h
  ·rw [hw] at h6;cases h6
  ·exact .inl h6
  ·exact .inr (TS h)
theorem v8.symm {ops:List Oper} {p j:Oper} (h:v8 ops p j):v8 ops j p :=
 ⟨h.e1,h.e2,λd hd e=>h.d3 d e hd,h.d1,h.d2,h.g2,h.g1⟩
theorem tC.symm {ops:List Oper} {p j:Oper} (h:tC ops p j):tC ops j p:=⟨h.t.symm,h.w2,h.w1⟩
theorem adD {s s':St} {x:Operand} (h:∀t,x=.tmp t->s.t[t]?=s'.t[t]?):ev s x=ev s' x:=by
 cases x with
 | tmp t=>simp only [ev,h t rfl]
 | _=>rfl
theorem Hm {c:Call} {x:Operand} (h:x∈c.args.toList):x∈c.operands:=by
 unfold Call.operands
 exact Array.mem_append.2 (.inr (Array.mem_toList_iff.1 h))
theorem Rw (X:Ctx) {s s':St} (l:Nat) (op:Op) (h:∀t∈jD op,s.t[t]?=s'.t[t]?) (hb:s.b=s'.b):dN X s l op=dN X s' l op:=by
 have e:∀x∈op.operands,ev s x=ev s' x:=λx hx=>adD λt ht=>h t (by
  subst ht
  exact By.2 ⟨.tmp t,by simpa using hx,rfl⟩)
 have Wz:∀ps:Array (Nat × Operand),(∀x∈ps.map (·.2),ev s x=ev s' x)->(ps.toList.map λp=>(p.1,ev s p.2))=(ps.toList.map λp=>(p.1,ev s' p.2)):=λps hp =>
  rS λp hm=>by rw [hp p.2 (Array.mem_map.2 ⟨p,by simpa using hm,rfl⟩)]
 cases op<;>simp only [Op.operands] at e<;>simp only [dN,<-hb]
 case call c =>
  have ha:c.args.toList.map (ev s)=c.args.toList.map (ev s'):=rS λx hx=>e x (Hm hx)
  cases hc:c.callee with
  | value g =>
   have hg:ev s g=ev s' g:=e g (by simp [Call.operands,hc])
   simp only [hg,ha]
  | invoke r m=>rfl
  | builtin b=>simp only [ha]
 case build t ps=>rw [Wz ps (λx hx=>e x (by simpa using hx))]
 case buildSlice t n ps=>rw [Wz ps (λx hx=>e x (by simpa using hx))]
 case makeFunc fn first captured =>
  rw [rS (l:=first.toList) (f:=ev s) (g:=ev s') λx hx=>e x (by simp [<-Array.mem_toList_iff,hx]),
   rS (l:=captured.toList) (f:=ev s) (g:=ev s') λx hx=>e x (by simp [<-Array.mem_toList_iff,hx])]
 case slice t x lo hi mx=>cases lo<;>cases hi<;>cases mx<;>simp_all
 all_goals first|rfl|(simp_all;done)
def eb:SV->Option Nat
 | .ptr l _=>some l
 | .fq l _ _ _=>some l
 | .own l=>some l
 | .et l _ _ _=>some l
 | .fy l=>some l
 | .fK l=>some l
 | _=>none
theorem UG (X:Ctx) {b b':List Slot} (t:TypeId) {x:SV} (h:∀l,eb x=some l->b[l]?=b'[l]?):zV X b t x=zV X b' t x:=by
 unfold zV
 cases x<;>simp only [eb] at h<;>first|rfl|(simp only [h _ rfl])
theorem TT (X:Ctx) {b b':List Slot} (t:TypeId) {x y:SV} (h:∀l,eb x=some l->b[l]?=b'[l]?):xW X b t x y=xW X b' t x y:=by
 unfold xW
 cases x<;>simp only [eb] at h<;>first|rfl|(simp only [h _ rfl])
theorem SX (X:Ctx) {b b':List Slot} (t:TypeId) {x y:SV} (ok:Bool) (h:∀l,eb x=some l->b[l]?=b'[l]?):zF X b t x y ok=zF X b' t x y ok:=by
 unfold zF
 cases x<;>simp only [eb] at h<;>first|rfl|(simp only [h _ rfl])
theorem TU {b b':List Slot} {x:SV} (h:∀l,eb x=some l->b[l]?=b'[l]?):zM b x=zM b' x:=by
 unfold zM
 cases x with
 | ptr l off =>
  cases off with
  | zero=>simp only [h l rfl]
  | succ n=>rfl
 | _=>rfl
theorem Hj (X:Ctx) {b b':List Slot} (t:TypeId) {x y z:SV} (h:∀l,eb x=some l->b[l]?=b'[l]?):vN X b t x y z=vN X b' t x y z:=by
 unfold vN
 cases x<;>simp only [eb] at h<;>first|rfl|(simp only [h _ rfl])
theorem Rx (X:Ctx) {b b':List Slot} (t:TypeId) {x y:SV} (h:∀l,eb x=some l->b[l]?=b'[l]?):xu X b t x y=xu X b' t x y:=by
 unfold xu
 cases x<;>simp only [eb] at h<;>first|rfl|(simp only [h _ rfl])
theorem afP (X:Ctx) {b b':List Slot} (t:TypeId) {x:SV} (h:∀l,eb x=some l->b[l]?=b'[l]?):Ad X b t x=Ad X b' t x:=by
 unfold Ad
 cases X.tt t with
 | none=>rfl
 | some i =>
  simp only
  cases i.d<;>cases x<;>simp only [eb] at h<;>first|rfl|(simp only [h _ rfl])
theorem WA {b b':List Slot} {x:SV} (h:∀l,eb x=some l->b[l]?=b'[l]?):top b x=top b' x:=by
 cases x<;>simp only [eb] at h<;>first|rfl|(simp only [top,h _ rfl])
theorem acG (X:Ctx) {b b':List Slot} (l:Nat) (t:TypeId) {x y:SV} (h:∀l,eb x=some l->b[l]?=b'[l]?) (h':∀l,eb y=some l->b[l]?=b'[l]?) :
  vY X b l t x y=vY X b' l t x y:=by
 unfold vY
 rw [WA h']
 by_cases hl:∃l,eb x=some l
 ·obtain ⟨l0,hl⟩:=hl
  have hb:=h l0 hl
  cases x<;>simp only [eb] at hl<;>first|(cases hl;done)|(cases hl;simp only [hb])
 ·cases x<;>first|exact absurd ⟨_,rfl⟩ hl|rfl|((repeat' (first|rfl|split))<;>simp_all;done)
theorem ab4 (X:Ctx) {b b':List Slot} (l:Nat) (t t':TypeId) {x y:SV} (h:∀l,eb x=some l->b[l]?=b'[l]?):vV X b l t t' x y=vV X b' l t t' x y:=by
 unfold vV
 cases x<;>simp only [eb] at h<;>first|rfl|(simp only [h _ rfl])
theorem aeS (X:Ctx) {b b':List Slot} (t:TypeId) {x y:SV} (h:∀l,eb x=some l->b[l]?=b'[l]?) (h':∀l,eb y=some l->b[l]?=b'[l]?) :
  x5 X b t x y=x5 X b' t x y:=by
 unfold x5
 rw [WA h']
 cases X.tt t with
 | none=>rfl
 | some i =>
  simp only
  cases i.d<;>try rfl
  rename_i e
  simp only
  cases X.tt e with
  | none=>cases x<;>rfl
  | some k=>cases x<;>simp only [eb] at h<;>first|rfl|simp only [h _ rfl]
theorem TV (X:Ctx) {b b':List Slot} (l:Nat) (t:TypeId) {x:SV} (lo hi mx:Option SV) (h:∀l,eb x=some l->b[l]?=b'[l]?) :
  xY X b l t x lo hi mx=xY X b' l t x lo hi mx:=by
 unfold xY
 cases X.tt t with
 | none=>rfl
 | some i =>
  simp only
  cases i.d<;>try rfl
  rename_i e
  simp only
  cases X.tt e with
  | none=>rfl
  | some k=>cases mx<;>cases x<;>simp only [eb] at h<;>first|rfl|simp only [h _ rfl]
theorem adE (X:Ctx) {b b':List Slot} (t:TypeId) {x:SV} (h:∀l,eb x=some l->b[l]?=b'[l]?):xX X b t x=xX X b' t x:=by
 unfold xX
 cases X.tt t with
 | none=>rfl
 | some i =>
  simp only
  cases i.d<;>try rfl
  rename_i e
  simp only
  cases X.tt e with
  | none=>rfl
  | some k=>cases x<;>simp only [eb] at h<;>first|rfl|simp only [h _ rfl]
theorem Sd (X:Ctx) {b b':List Slot} (l:Nat) (bi:Builtin) (ts:List TypeId) {xs:List SV} (h:∀x∈xs,∀l,eb x=some l->b[l]?=b'[l]?) :
  xJ X b l bi ts xs=xJ X b' l bi ts xs:=by
 unfold xJ
 cases bi<;>try rfl
 ·simp only
  split
  ·rw [acG X l _ (h _ (by simp)) (h _ (by simp)),ab4 X l _ _ (h _ (by simp))]
  ·rfl
 ·simp only
  split
  ·rw [adE X _ (h _ (by simp))]
  ·rfl
 ·simp only
  split
  ·rw [aeS X _ (h _ (by simp)) (h _ (by simp))]
  ·rfl
 ·simp only
  split
  ·rw [afP X _ (h _ (by simp))]
  ·rfl
theorem MX (X:Ctx) (t:List SV) (b b':List Slot) (l:Nat) (op:Op) (h:rj op=false):dN X ⟨t,b⟩ l op=dN X ⟨t,b'⟩ l op:=by
 cases op<;>simp [rj] at h<;>rfl
theorem aeT (X:Ctx) (t:List SV) (b b':List Slot) (l:Nat) (op:Op) (hd:deep op=false) (h:∀x∈op.operands,∀l,eb (ev ⟨t,b⟩ x)=some l->b[l]?=b'[l]?) :
  dN X ⟨t,b⟩ l op=dN X ⟨t,b'⟩ l op:=by
 cases op<;>try rfl
 case load ty x=>exact UG X ty (h x (by simp [Op.operands]))
 case store ty x y=>exact TT X ty (h x (by simp [Op.operands]))
 case indexAddr ty x y=>exact Rx X ty (h x (by simp [Op.operands]))
 case lookup ty x y ok=>exact SX X ty ok (h x (by simp [Op.operands]))
 case entry x=>exact TU (h x (by simp [Op.operands]))
 case mapUpdate ty x y z=>exact Hj X ty (h x (by simp [Op.operands]))
 case insert ty x y z=>exact Hj X ty (h x (by simp [Op.operands]))
 case slice ty x lo hi mx =>
  have e:∀x,ev ⟨t,b⟩ x=ev ⟨t,b'⟩ x:=λx=>by cases x<;>rfl
  have e':ev ⟨t,b⟩=ev ⟨t,b'⟩:=funext e
  simp only [dN,<-e']
  exact TV X l ty _ _ _ (h x (by simp [Op.operands]))
 case call c =>
  simp only [dN]
  cases hc:c.callee with
  | value g=>simp [deep,hc] at hd
  | invoke r m=>rfl
  | builtin bi =>
   simp only
   have e:c.args.toList.map (ev ⟨t,b⟩)=c.args.toList.map (ev ⟨t,b'⟩):=rS λx _=>by cases x<;>rfl
   rw [<-e]
   refine Sd X l bi _ λy hy=>?_
   obtain ⟨x,hx,rfl⟩:=jW.1 hy
   exact h x (by simp only [Op.operands];exact Hm hx)
def gd (s:St) (t:Tmp):Option Nat:=eb ((s.t[t]?).getD .any)
theorem aeU (v:Value):eb (wH v)=none:=by
 have h1:∀v,eb (jG v)=none:=λv=>by unfold jG;split<;>rfl
 unfold wH
 split
 ·rfl
 ·exact h1 _
theorem UH (X:Ctx) (t:List SV) (b b':List Slot) (l:Nat) (op:Op) {ys:List Tmp} (hm:fO op=some ys) (h:∀y∈ys,∀l,gd ⟨t,b⟩ y=some l->b[l]?=b'[l]?) :
  dN X ⟨t,b⟩ l op=dN X ⟨t,b'⟩ l op:=by
 cases op<;>try (cases hm;done)
 case load ty x =>
  cases x<;>simp [fO] at hm
  subst hm
  exact UG X ty (h _ (by simp))
 case store ty x z =>
  cases x<;>simp [fO] at hm
  subst hm
  have e:ev ⟨t,b⟩ z=ev ⟨t,b'⟩ z:=by cases z<;>rfl
  simp only [dN,e]
  exact TT X ty (h _ (by simp))
 case indexAddr ty x z =>
  cases x<;>simp [fO] at hm
  subst hm
  have e:ev ⟨t,b⟩ z=ev ⟨t,b'⟩ z:=by cases z<;>rfl
  simp only [dN,e]
  exact Rx X ty (h _ (by simp))
 case entry x =>
  cases x<;>simp [fO] at hm
  subst hm
  exact TU (h _ (by simp))
 case lookup ty x z ok =>
  cases x<;>simp [fO] at hm
  subst hm
  have e:ev ⟨t,b⟩ z=ev ⟨t,b'⟩ z:=by cases z<;>rfl
  simp only [dN,e]
  exact SX X ty ok (h _ (by simp))
 case mapUpdate ty x z z' =>
  cases x<;>simp [fO] at hm
  subst hm
  have e:ev ⟨t,b⟩ z=ev ⟨t,b'⟩ z:=by cases z<;>rfl
  have e':ev ⟨t,b⟩ z'=ev ⟨t,b'⟩ z':=by cases z'<;>rfl
  simp only [dN,e,e']
  exact Hj X ty (h _ (by simp))
 case insert ty x z z' =>
  cases x<;>simp [fO] at hm
  subst hm
  have e:ev ⟨t,b⟩ z=ev ⟨t,b'⟩ z:=by cases z<;>rfl
  have e':ev ⟨t,b⟩ z'=ev ⟨t,b'⟩ z':=by cases z'<;>rfl
  simp only [dN,e,e']
  exact Hj X ty (h _ (by simp))
 case slice ty x lo hi mx =>
  cases x<;>cases mx<;>simp [fO] at hm
  subst hm
  have e:∀x,ev ⟨t,b⟩ x=ev ⟨t,b'⟩ x:=λx=>by cases x<;>rfl
  have e':ev ⟨t,b⟩=ev ⟨t,b'⟩:=funext e
  simp only [dN,<-e']
  exact TV X l ty _ _ _ (h _ (by simp))
 case call c =>
  simp only [dN]
  cases hc:c.callee with
  | value g=>simp [fO,hc] at hm
  | invoke r m=>rfl
  | builtin bi =>
   simp only [fO,hc,pX] at hm
   subst hm
   simp only
   have e:c.args.toList.map (ev ⟨t,b⟩)=c.args.toList.map (ev ⟨t,b'⟩):=rS λx _=>by cases x<;>rfl
   rw [<-e]
   refine Sd X l bi _ λy hy=>?_
   obtain ⟨x,hx,rfl⟩:=jW.1 hy
   cases x with
   | tmp z=>exact h z (By.2 ⟨.tmp z,hx,rfl⟩)
   | const v =>
    intro l hl
    have:eb (wH v)=some l:=hl
    rw [aeU] at this;cases this
   | global g=>intro l hl;cases hl
   | func f=>intro l hl;cases hl
theorem Hf (X:Ctx) (s:St) {ty:TypeId} {z:Operand} {y y':SV} {x:SV} {u:List (Nat × Slot)} (h:(vN X s.b ty (ev s z) y y').out x u) :
  ∃k sl,eb (ev s z)=some k/\u=[(k,sl)]/\∃x0,s.b[k]?=some x0/\x0.live=.live:=by
 unfold vN at h
 split at h<;>try exact h.elim
 split at h<;>try exact h.elim
 split at h<;>try exact h.elim
 split at h<;>try exact h.elim
 split at h<;>try exact h.elim
 rename_i k e
 split at h<;>try exact h.elim
 rename_i hs
 split at h<;>try exact h.elim
 split at h<;>try exact h.elim
 obtain ⟨_,_,_,rfl⟩:=h
 exact ⟨k,_,by rw [e];rfl,rfl,_,hs,rfl⟩
theorem SY (X:Ctx) (s:St) (l:Nat) (op:Op) {x:SV} {u:List (Nat × Slot)} (h:(dN X s l op).out x u) {t:Tmp} (hm:je op=some t) :
  ∀q∈u,gd s t=some q.1\/(fl op=true/\q.1=l):=by
 cases op<;>try (cases hm;done)
 case store ty z z' =>
  cases z<;>simp [je] at hm
  rename_i t'
  subst hm
  simp only [dN] at h
  unfold xW at h
  split at h<;>try exact h.elim
  split at h<;>try exact h.elim
  split at h
  ·rename_i k off e
   repeat' split at h
   all_goals try exact h.elim
   obtain rfl:=h.2
   intro q hq;simp at hq;subst hq
   have e':gd s t'=eb (ev s (.tmp t')):=rfl
   left;rw [e',e];rfl
  ·rename_i k sz j off e
   repeat' split at h
   all_goals try exact h.elim
   all_goals
    first|(obtain ⟨_,_,_,rfl⟩:=h;done)|skip
   all_goals
    first|(obtain ⟨_,_,rfl⟩:=h)|(obtain ⟨_,_,_,rfl⟩:=h)
    intro q hq;simp at hq;subst hq
    have e':gd s t'=eb (ev s (.tmp t')):=rfl
    left;rw [e',e];rfl
  ·exact h.elim
 case mapUpdate ty z z' z'' =>
  cases z<;>simp [je] at hm
  rename_i t'
  subst hm
  obtain ⟨k,sl,h1,rfl,_⟩:=Hf X s h
  intro q hq;simp at hq;subst hq
  exact .inl h1
 case insert ty z z' z'' =>
  cases z<;>simp [je] at hm
  rename_i t'
  subst hm
  obtain ⟨k,sl,h1,rfl,_⟩:=Hf X s h
  intro q hq;simp at hq;subst hq
  exact .inl h1
 case call c =>
  obtain ⟨callee,args,argTypes⟩:=c
  simp only [dN] at h
  cases callee with
  | value g=>simp [je] at hm
  | invoke r m=>simp [je] at hm
  | builtin bi =>
   simp only at h
   have hd:∀{xs:List Operand} {a b:SV},xS xs=some t->xs.map (ev s)=[a,b]->gd s t=eb a:=by
    intro xs a b h1 h2
    unfold xS at h1
    split at h1
    ·simp at h1;subst h1
     simp only [gS,Eb] at h2
     rw [<-h2.1];rfl
    ·cases h1
   unfold xJ at h
   split at h<;>simp [je] at hm
   ·split at h<;>try exact h.elim
    rename_i y z C0
    have hl:=hd hm (by assumption)
    split at h
    ·unfold vY at h
     repeat' split at h
     all_goals try exact h.elim
     iterate 2
      obtain ⟨_,_,_,rfl⟩:=h
      intro q hq;simp at hq
      rcases hq with rfl|rfl
      ·left;rw [hl];rfl
      ·right;exact ⟨rfl,rfl⟩
     all_goals
      obtain ⟨_,_,_,rfl⟩:=h
      intro q hq;simp at hq;subst hq
      right;exact ⟨rfl,rfl⟩
    ·unfold vV at h
     repeat' split at h
     all_goals try exact h.elim
     ·obtain ⟨_,_,_,rfl⟩:=h
      intro q hq;simp at hq;subst hq
      right;exact ⟨rfl,rfl⟩
     obtain ⟨_,_,_,rfl⟩:=h
     intro q hq;simp at hq
     rcases hq with rfl|rfl
     ·left;rw [hl];rfl
     ·right;exact ⟨rfl,rfl⟩
   ·split at h<;>try exact h.elim
    have hl:=hd hm (by assumption)
    split at h<;>try exact h.elim
    unfold x5 at h
    repeat' split at h
    all_goals try exact h.elim
    obtain ⟨_,_,_,rfl⟩:=h
    intro q hq;simp at hq;subst hq
    left;rw [hl];rfl
   ·split at h<;>try exact h.elim
    rename_i ty y Ps C0
    have hl:gd s t=eb y:=by
     unfold xS at hm
     split at hm
     ·rename_i e1
      simp at hm;subst hm
      rw [e1] at C0
      simp only [gS,Eb] at C0
      rw [<-C0.1];rfl
     ·cases hm
    unfold xX at h
    repeat' split at h
    all_goals try exact h.elim
    obtain ⟨_,_,_,rfl⟩:=h
    intro q hq;simp at hq;subst hq
    left;rw [hl];rfl
   ·exact h.elim
theorem TW (X:Ctx) (s:St) (l:Nat) (op:Op) {x:SV} {u:List (Nat × Slot)} (h:(dN X s l op).out x u) {t:Tmp} (hm:tL op=some t) :
  ∀k,eb x=some k->gd s t=some k:=by
 have key:∀z,z=ev s (.tmp t)->∀k,eb z=some k->gd s t=some k:=by rintro z rfl k hk;exact hk
 cases op<;>try (cases hm;done)
 case move z =>
  cases z<;>simp [tL] at hm
  subst hm
  obtain ⟨rfl,_⟩:=h
  exact key _ rfl
 case assign z =>
  cases z<;>simp [tL] at hm
  subst hm
  obtain ⟨rfl,_⟩:=h
  exact key _ rfl
 case nilCheck z =>
  cases z<;>simp [tL] at hm
  subst hm
  simp only [dN] at h
  split at h<;>first|exact h.elim|skip
  ·rename_i e;obtain ⟨rfl,_⟩:=h;exact key _ e.symm
  ·rename_i e;obtain ⟨rfl,_⟩:=h;exact key _ e.symm
  ·obtain ⟨rfl,_⟩:=h;intro k hk;cases hk
 case fieldAddr ty z j =>
  cases z<;>simp [tL] at hm
  subst hm
  rename_i t
  simp only [dN] at h
  generalize hz:ev s (.tmp t)=z at h
  unfold DR at h
  repeat' split at h
  all_goals first|exact h.elim|skip
  all_goals
   obtain ⟨rfl,_⟩:=h
   intro k hk
   exact key _ hz.symm k hk
 case slice ty z lo hi mx =>
  cases z<;>cases mx<;>simp [tL] at hm
  subst hm
  rename_i t
  have hc:∀a b,clip a b none=false:=λa b=>by unfold clip;split<;>simp_all
  simp only [dN,zl] at h
  generalize hz:ev s (.tmp t)=z at h
  unfold xY at h
  simp only [hc,Bool.false_and,ng,if_false] at h
  repeat' split at h
  all_goals first|exact h.elim|skip
  all_goals
   intro k hk
   first
   | (obtain ⟨_,_,rfl,_⟩:=h;cases hk;done)
   | (obtain ⟨_,rfl,_⟩:=h;first|(cases hk;done)|exact key _ hz.symm k hk)
   | (obtain ⟨rfl,_⟩:=h;cases hk;done)
 case indexAddr ty z ix =>
  cases z<;>simp [tL] at hm
  subst hm
  rename_i t
  simp only [dN] at h
  generalize hz:ev s (.tmp t)=z at h
  unfold xu at h
  repeat' split at h
  all_goals first|exact h.elim|skip
  all_goals
   intro k hk
   first
   | (obtain ⟨_,_,rfl,_⟩:=h;first|(cases hk;done)|exact key _ hz.symm k hk)
   | (obtain ⟨rfl,_⟩:=h;first|(cases hk;done)|exact key _ hz.symm k hk)
   | (obtain ⟨_,rfl,_⟩:=h;exact key _ hz.symm k hk)
def zO (ops:List Oper) (lb:List (Oper × Nat)) (s:St) (t:Tmp):List Nat :=
 (match gd s t with|some l=>[l]|none=>[])++(lb.filterMap λp=>match EZ p.1 t&&newVar p.1.op&&fl p.1.op with|true=>some p.2|false=>none)
def po (ops:List Oper) (lb:List (Oper × Nat)) (s:St) (t:Tmp):List Nat:=match j8 ops 8 t with
 | some A=>A.flatMap (zO ops lb s)
 | none=>[]
structure ot (ops:List Oper) (K:Tmp->List Nat) (s:St):Prop where
 gW:∀t A,j8 ops 8 t=some A->∀l,gd s t=some l->l∈K t
 cl:∀o∈ops,∀t x A,o.dst=some t->newVar o.op=false->tL o.op=some x->j8 ops 8 t=some A->(∃B,j8 ops 8 x=some B)/\∀l∈K x,l∈K t
 J2:∀p∈ops,∀j∈ops,∀x ys,CZ ops p j x ys->mP p.op=true->∀y∈ys,∀l∈K x,l∉K y
def se (ops:List Oper) (K:Tmp->List Nat) (o:Oper) (l:Nat):Prop:=∀t A,o.dst=some t->newVar o.op=true->fl o.op=true->j8 ops 8 t=some A->l∈K t
theorem HQ {ops:List Oper} {lb:List (Oper × Nat)} {s:St}:∀o∈ops,∀t x A,o.dst=some t->newVar o.op=false->tL o.op=some x->j8 ops 8 t=some A ->
  (∃B,j8 ops 8 x=some B)/\∀l∈po ops lb s x,l∈po ops lb s t:=by
 intro o ho t x A hd hn hx hA
 have hA':qh (j8 ops 7) t ops=some A:=hA
 rcases EA hd ho hA' with h|⟨x',B,h1,h2,h3⟩
 ·rw [h] at hn;cases hn
 ·rw [hx] at h1;cases h1
  have h4:=TR h2
  refine ⟨⟨B,h4⟩,λl hl=>?_⟩
  unfold po at hl ⊢
  rw [h4] at hl
  rw [hA]
  obtain ⟨y,hy,hl⟩:=D9.1 hl
  exact D9.2 ⟨y,h3 y hy,hl⟩
theorem DQ {ops:List Oper} {lb:List (Oper × Nat)} {s:St} {t:Tmp} {A:List Tmp} (h:j8 ops 8 t=some A) {l:Nat} (hl:l∈zO ops lb s t):l∈po ops lb s t:=by
 unfold po
 rw [h]
 exact D9.2 ⟨t,HP (show qh (j8 ops 7) t ops=some A from h),hl⟩
theorem ot.ne {ops:List Oper} {K:Tmp->List Nat} {s:St} (h:ot ops K s) {p j:Oper} (hp:p∈ops) (hj:j∈ops) {x:Tmp} {ys:List Tmp} (F:CZ ops p j x ys) (hw:mP p.op=true) {l:Nat} (hx:gd s x=some l)
  {y:Tmp} (hm:y∈ys):gd s y≠some l:=λhy=>by
 obtain ⟨A,hA⟩:=F.ax
 obtain ⟨B,hB,_⟩:=F.d A hA y hm
 exact h.J2 p hp j hj x ys F hw y hm l (h.gW x A hA l hx) (h.gW y B hB l hy)
def Sep (p j:Oper) (s:St):Prop:=mP p.op=true->rj j.op=false\/∃x ys,je p.op=some x/\fO j.op=some ys/\∀l,gd s x=some l->∀y∈ys,gd s y≠some l
theorem tC.sep {ops:List Oper} {K:Tmp->List Nat} {s:St} {p j:Oper} (h:tC ops p j) (FA:ot ops K s) (hp:p∈ops) (hj:j∈ops):Sep p j s:=λhw=>by
 rcases h.w1 hw with h1|⟨x,ys,F⟩
 ·exact .inl h1
 ·exact .inr ⟨x,ys,F.p,F.j,λl hl y hy=>FA.ne hp hj F hw hl hy⟩
def Nl (b:List Slot) (l:Nat):Prop:=∃z,b[l]?=some z/\z.live=.live
def Shape (b:List Slot) (l:Nat) (op:Op) (u:List (Nat × Slot)):Prop :=
 u=[]\/(fl op=true/\∃y,u=[(l,y)])\/(mP op=true/\∃l0 y,u=[(l0,y)]/\Nl b l0) \/
  (mP op=true/\fl op=true/\∃l0 y z,u=[(l0,y),(l,z)]/\Nl b l0)
theorem SZ (X:Ctx) (s:St) (l:Nat) (op:Op) {x:SV} {u:List (Nat × Slot)} (h:(dN X s l op).out x u):Shape s.b l op u:=by
 have no:∀{A:dR},A.out x u->(∀x' u',A.out x' u'->u'=[])->Shape s.b l op u:=λh1 h2=>.inl (h2 _ _ h1)
 cases op<;>simp only [dN] at h<;>try exact h.elim
 case move y=>exact .inl h.2
 case assign y=>exact .inl h.2
 case pick c y z =>
  unfold IM at h
  split at h<;>try (first|exact h.elim|exact .inl h.2)
  split at h<;>first|exact h.elim|exact .inl h.2
 case alloc e =>
  split at h<;>first|exact h.elim|exact .inr (.inl ⟨rfl,_,h.2⟩)
 case box e y =>
  split at h<;>first|exact h.elim|exact .inr (.inl ⟨rfl,_,h.2⟩)
 case build t ps =>
  unfold Il at h
  repeat' split at h
  all_goals first|exact h.elim|exact .inl h.2
 case buildSlice t n ps =>
  unfold DP at h
  repeat' split at h
  all_goals first|exact h.elim|exact .inl h.2|exact .inr (.inl ⟨rfl,_,h.2⟩)|(obtain ⟨_,_,_,h⟩:=h;exact .inr (.inl ⟨rfl,_,h⟩))
 case load t y =>
  unfold zV at h
  repeat' split at h
  all_goals first|exact h.elim|exact .inl h.2|exact .inl h.2.2|(obtain ⟨_,_,_,h⟩:=h;exact .inl h)
 case store t y z =>
  unfold xW at h
  repeat' split at h
  all_goals try exact h.elim
  ·rename_i hs _
   exact .inr (.inr (.inl ⟨rfl,_,_,h.2,_,hs,rfl⟩))
  ·exact .inr (.inr (.inl ⟨rfl,_,_,h.2.2,_,by assumption,rfl⟩))
  ·obtain ⟨_,_,_,h⟩:=h
   exact .inr (.inr (.inl ⟨rfl,_,_,h,_,by assumption,rfl⟩))
 case mapUpdate t y z z' =>
  obtain ⟨k,sl,_,rfl,x0,hs,hl⟩:=Hf X s h
  exact .inr (.inr (.inl ⟨rfl,_,_,rfl,_,hs,hl⟩))
 case insert t y z z' =>
  obtain ⟨k,sl,_,rfl,x0,hs,hl⟩:=Hf X s h
  exact .inr (.inr (.inl ⟨rfl,_,_,rfl,_,hs,hl⟩))
 case entry y =>
  unfold zM at h
  repeat' split at h
  all_goals first|exact h.elim|exact .inl h.2
 case lookup t y z ok =>
  unfold zF at h
  repeat' split at h
  all_goals first|exact h.elim|(obtain ⟨_,_,_,h⟩:=h;exact .inl h)
 case makeMap t r =>
  unfold Eu at h
  repeat' split at h
  all_goals first|exact h.elim|exact .inr (.inl ⟨rfl,_,h.2⟩)
 case range t y =>
  unfold ER at h
  repeat' split at h
  all_goals first|exact h.elim|exact .inr (.inl ⟨rfl,_,h.2⟩)
 case nilCheck y =>
  repeat' split at h
  all_goals first|exact h.elim|exact .inl h.2
 case binOp bo t y z t' =>
  unfold Jf at h
  repeat' split at h
  all_goals try exact h.elim
  all_goals try exact .inl h.2
  all_goals try exact .inl h.2.2
  ·unfold BZ at h;split at h<;>first|exact h.elim|exact .inl h.2
  ·unfold xV at h;split at h<;>first|exact h.elim|exact .inl h.2|exact .inl h.2.2
 case unOp uo t y =>
  unfold JQ at h
  repeat' split at h
  all_goals first|exact h.elim|exact .inl h.2
 case convert src dst y =>
  unfold IN at h
  repeat' split at h
  all_goals first|exact h.elim|exact .inl h.2
 case makeFunc fn fs cs=>exact .inl h.2
 case makeSlice t n m =>
  unfold DS at h
  repeat' split at h
  all_goals first|exact h.elim|exact .inr (.inl ⟨rfl,_,h.2.2⟩)
 case slice t y lo hi mx =>
  unfold xY at h
  split at h<;>try exact h.elim
  split at h<;>try exact h.elim
  ·split at h<;>try exact h.elim
   split at h
   ·rename_i hc
    split at h<;>try exact h.elim
    have hm:mx.isSome=true:=by
     simp only [cu] at hc
     cases mx with
     | none=>simp [clip] at hc
     | some _=>rfl
    exact .inr (.inl ⟨by cases mx<;>simp at hm;rfl,_,h.2⟩)
   ·repeat' split at h
    all_goals first|exact h.elim|exact .inl h.2.2|exact .inl h.2|(obtain ⟨_,_,_,h⟩:=h;exact .inl h)
  ·repeat' split at h
   all_goals first|exact h.elim|exact .inl h.2.2
  ·repeat' split at h
   all_goals first|exact h.elim|(obtain ⟨_,_,_,h⟩:=h;exact .inl h)
 case fieldAddr t y j =>
  unfold DR at h
  repeat' split at h
  all_goals first|exact h.elim|exact .inl h.2
 case field t y j =>
  unfold Im at h
  repeat' split at h
  all_goals first|exact h.elim|exact .inl h.2
 case indexAddr t y z =>
  unfold xu at h
  repeat' split at h
  all_goals first|exact h.elim|exact .inl h.2|exact .inl h.2.2|(obtain ⟨_,_,_,h⟩:=h;exact .inl h)
 case index t y z =>
  unfold Ik at h
  repeat' split at h
  all_goals first|exact h.elim|exact .inl h.2|exact .inl h.2.2|(obtain ⟨_,_,_,h⟩:=h;exact .inl h)
 case extract y j =>
  repeat' split at h
  all_goals first|exact h.elim|exact .inl h.2
 case call c =>
  split at h
  ·split at h<;>try exact h.elim
   unfold Cc at h
   repeat' split at h
   all_goals first|exact h.elim|(obtain ⟨_,_,_,h⟩:=h;exact .inl h)
  ·rename_i bi hc
   obtain ⟨callee,args,argTypes⟩:=c
   simp only at hc h
   subst hc
   unfold xJ at h
   split at h<;>try exact h.elim
   ·split at h<;>try exact h.elim
    unfold Ad at h
    repeat' split at h
    all_goals first|exact h.elim|exact .inl h.2|(obtain ⟨_,_,_,h⟩:=h;exact .inl h)
   ·split at h<;>try exact h.elim
    split at h
    ·unfold vY at h
     repeat' split at h
     all_goals try exact h.elim
     iterate 2
      rename_i hs _
      obtain ⟨_,_,_,h⟩:=h
      exact .inr (.inr (.inr ⟨rfl,rfl,_,_,_,h,_,hs,rfl⟩))
     all_goals
      obtain ⟨_,_,_,h⟩:=h
      exact .inr (.inl ⟨rfl,_,h⟩)
    ·unfold vV at h
     split at h<;>try exact h.elim
     ·repeat' split at h
      all_goals try exact h.elim
      obtain ⟨_,_,_,h⟩:=h
      exact .inr (.inl ⟨rfl,_,h⟩)
     split at h<;>try exact h.elim
     rename_i hs
     repeat' split at h
     all_goals try exact h.elim
     obtain ⟨_,_,_,h⟩:=h
     exact .inr (.inr (.inr ⟨rfl,rfl,_,_,_,h,_,hs,rfl⟩))
   ·split at h<;>try exact h.elim
    split at h<;>try exact h.elim
    unfold x5 at h
    repeat' split at h
    all_goals try exact h.elim
    rename_i hs _
    obtain ⟨_,_,_,h⟩:=h
    exact .inr (.inr (.inl ⟨rfl,_,_,h,_,hs,rfl⟩))
   ·split at h<;>try exact h.elim
    unfold xX at h
    repeat' split at h
    all_goals try exact h.elim
    rename_i hs _
    obtain ⟨_,_,_,h⟩:=h
    exact .inr (.inr (.inl ⟨rfl,_,_,h,_,hs,rfl⟩))
   ·split at h<;>try exact h.elim
    all_goals
     (first|unfold CV at h|unfold Cq at h)
     repeat' split at h
     all_goals first|exact h.elim|exact .inl h.2
   ·split at h<;>try exact h.elim
    all_goals
     (first|unfold CV at h|unfold Cq at h)
     repeat' split at h
     all_goals first|exact h.elim|exact .inl h.2
   ·split at h<;>try exact h.elim
    unfold Jg at h
    repeat' split at h
    all_goals first|exact h.elim|exact .inl h.2
  ·exact h.elim
def ld (g:Option (Tmp × SV)) (t:List SV):List SV :=
 match g with
 | some (i,v)=>t.set i v
 | none=>t
def lL (d:Option Tmp) (x:SV) (t:List SV):List SV :=
 match d with
 | some i=>t.set i x
 | none=>t
theorem MB (g:Option (Tmp × SV)) (t:List SV) (i:Nat) (h:∀j v,g=some (j,v)->j≠i):(ld g t)[i]?=t[i]?:=by
 unfold ld
 split
 ·rw [fU (h _ _ rfl)]
 ·rfl
theorem HY (d:Option Tmp) (x:SV) (t:List SV) (i:Nat) (h:∀j,d=some j->j≠i):(lL d x t)[i]?=t[i]?:=by
 unfold lL
 split
 ·rw [fU (h _ rfl)]
 ·rfl
def oy (X:Ctx) (ops:List Oper) (o:Oper) (l:Nat) (s:St) (g:Option (Tmp × SV)) (x:SV) (u:List (Nat × Slot)):Prop :=
 match tK ops o with
 | none=>g=none/\(dN X s l o.op).out x u
 | some (none,_)=>False
 | some (some i,want)=>∃y v,s.t[i]?=some y/\ky y=some v/\g=some (i,v) /\
  match kG want v with
  | true=>(dN X ⟨s.t.set i v,s.b⟩ l o.op).out x u
  | false=>x=.ca []/\u=[]
theorem zI {X:Ctx} {ops:List Oper} {o:Oper} {l:Nat} {s s':St} :
  Out X ops o l s s'↔∃g x u,oy X ops o l s g x u/\s'=⟨lL o.dst x (ld g s.t),kr s.b u⟩:=by
 unfold Out oy
 rcases hg:tK ops o with _|⟨_|i,want⟩
 ·constructor
  ·rintro ⟨x,u,h,rfl⟩;exact ⟨none,x,u,⟨rfl,h⟩,rfl⟩
  ·rintro ⟨g,x,u,⟨rfl,h⟩,rfl⟩;exact ⟨x,u,h,rfl⟩
 ·simp
 ·constructor
  ·rintro ⟨y,v,h1,h2,h3⟩
   cases hw:kG want v<;>rw [hw] at h3<;>simp only at h3
   ·exact ⟨some (i,v),.ca [],[],⟨y,v,h1,h2,rfl,by rw [hw];exact ⟨rfl,rfl⟩⟩,h3⟩
   ·obtain ⟨x,u,h4,h5⟩:=h3
    exact ⟨some (i,v),x,u,⟨y,v,h1,h2,rfl,by rw [hw];exact h4⟩,h5⟩
  ·rintro ⟨g,x,u,⟨y,v,h1,h2,rfl,h3⟩,h5⟩
   refine ⟨y,v,h1,h2,?_⟩
   cases hw:kG want v<;>rw [hw] at h3<;>simp only at h3 ⊢
   ·obtain ⟨rfl,rfl⟩:=h3;exact h5
   ·exact ⟨x,u,h3,h5⟩
theorem abH (g:Option (Tmp × SV)) (t:List SV):(ld g t).length=t.length:=by unfold ld;split<;>simp
theorem abI (g:Option Tmp) (x:SV) (t:List SV):(lL g x t).length=t.length:=by unfold lL;split<;>simp
theorem S1 {y v:SV} (h:ky y=some v):ky v=some v:=by
 unfold ky at h
 split at h<;>simp at h<;>subst h<;>rfl
theorem oy.guard {X:Ctx} {ops:List Oper} {o:Oper} {l:Nat} {s:St} {g:Option (Tmp × SV)} {x:SV} {u:List (Nat × Slot)} (h:oy X ops o l s g x u) :
  (gT ops o=none/\g=none)\/∃i y v,gT ops o=some i/\g=some (i,v)/\s.t[i]?=some y/\ky y=some v:=by
 unfold oy at h
 unfold gT
 split at h
 ·rename_i hg;rw [hg];exact .inl ⟨rfl,h.1⟩
 ·exact h.elim
 ·rename_i i want hg
  obtain ⟨y,v,h1,h2,h3,_⟩:=h
  rw [hg]
  exact .inr ⟨i,y,v,rfl,h3,h1,h2⟩
theorem oy.shape {X:Ctx} {ops:List Oper} {o:Oper} {l:Nat} {s:St} {g:Option (Tmp × SV)} {x:SV} {u:List (Nat × Slot)} (h:oy X ops o l s g x u) :
  Shape s.b l o.op u:=by
 unfold oy at h
 split at h
 ·exact SZ X s l o.op h.2
 ·exact h.elim
 ·rename_i i want hg
  obtain ⟨y,v,h1,h2,h3,h4⟩:=h
  split at h4
  ·exact SZ X ⟨s.t.set i v,s.b⟩ l o.op h4
  ·exact .inl h4.2
theorem Ry {f:Fr} {s:St} {η:Nat->Value} {H:aV} {a:Act} {w:World} (D:Den f s η H a w) (x:Operand) {l:Nat} (h:eb (ev s x)=some l):aN s.b l≠.un:=by
 have hx:=D.ev x
 intro hq
 cases hs:ev s x<;>rw [hs] at h hx<;>simp [eb] at h<;>subst h<;>simp only [rel,hq] at hx
theorem UI {f:Fr} {s:St} {η:Nat->Value} {H:aV} {a:Act} {w:World} (D:Den f s η H a w) {l:Nat} (hu:s.b[l]?=some .un) (y:Slot) :
  ∀(n:Nat) (x:SV) (v:Value),rel η (aN s.b) H x v->gU (s.b.set l y) n x=gU s.b n x
 | 0,x,v,h=>rfl
 | n+1,x,v,h=>by
  have map:∀(cs:List SV) (vs:List Value),aK η (aN s.b) H cs vs->cs.map (gU (s.b.set l y) n)=cs.map (gU s.b n):=by
   intro cs
   induction cs with
   | nil=>intro vs h;rfl
   | cons c r ih =>
    intro vs h
    simp only [aK] at h
    obtain ⟨u,us,h1,h2,h3⟩:=h
    simp only [gS]
    rw [UI D hu y n c u h2,ih us h3]
  have hq:aN s.b l=.un:=by rw [bR hu];rfl
  cases x with
  | own k =>
   have hk:l≠k:=by
    rintro rfl
    simp only [rel,hq] at h
   simp only [gU,fU hk]
  | et k sz m j =>
   have hk:l≠k:=by
    rintro rfl
    simp only [rel,hq] at h
   simp only [gU,fU hk]
  | ptr k off =>
   have hk:l≠k:=by
    rintro rfl
    simp only [rel,hq] at h
   simp only [gU,fU hk]
   split
   ·rename_i e cs hs
    simp only [rel,bR hs,Slot.live] at h
    obtain ⟨jJ,vs,h3,h4,h5⟩:=D.sl k _ hs
    rw [map _ _ h5]
   ·rfl
  | fy k =>
   have hk:l≠k:=by
    rintro rfl
    simp only [rel,hq] at h
   simp only [gU,fU hk]
  | fn g cs ds =>
   simp only [gU]
   simp only [rel] at h
   obtain ⟨vs,us,h1,h2,h3⟩:=h
   rw [map _ _ h2,map _ _ h3]
  | agg cs =>
   simp only [gU]
   simp only [rel] at h
   obtain ⟨vs,h1,h2⟩:=h
   rw [map _ _ h2]
  | ca cs =>
   simp only [gU]
   simp only [rel] at h
   obtain ⟨vs,h1,h2⟩:=h
   rw [map _ _ h2]
  | _=>rfl
theorem TX {f:Fr} {s:St} {η:Nat->Value} {H:aV} {a:Act} {w:World} (D:Den f s η H a w) {l:Nat} (hu:s.b[l]?=some .un) (y:Slot) :
  ∀(cs:List SV) (vs:List Value),aK η (aN s.b) H cs vs->cs.map (view (s.b.set l y))=cs.map (view s.b)
 | [],vs,h=>rfl
 | c :: r,vs,h=>by
  simp only [aK] at h
  obtain ⟨u,us,h1,h2,h3⟩:=h
  simp only [gS,view]
  rw [UI D hu y 4 c u h2]
  exact congrArg _ (TX D hu y r us h3)
theorem acH (X:Ctx) {f:Fr} {t:List SV} {b:List Slot} (G:Good f ⟨t,b⟩) {l':Nat} {y:Slot} (jz:b[l']?=some .un) (op:Op) (hd:deep op=true) (l:Nat) :
  dN X ⟨t,b⟩ l op=dN X ⟨t,b.set l' y⟩ l op:=by
 cases op<;>try (cases hd;done)
 case call c =>
  have e:∀x,ev ⟨t,b.set l' y⟩ x=ev ⟨t,b⟩ x:=λx=>by cases x<;>rfl
  obtain ⟨η,H,a,w,D⟩:=G
  simp only [dN]
  cases hc:c.callee with
  | invoke r m=>rfl
  | builtin bi=>simp [deep,hc] at hd
  | value g =>
   have hg:=D.ev g
   have hm:c.args.toList.map (ev ⟨t,b.set l' y⟩)=c.args.toList.map (ev ⟨t,b⟩):=rS λx _=>e x
   simp only [hm,e]
   split
   ·rename_i fid first cap hv
    rw [hv] at hg
    simp only [rel] at hg
    obtain ⟨fs,cs,_,h1,h2⟩:=hg
    have ha:aK η (aN b) H (c.args.toList.map (ev ⟨t,b⟩)) (c.args.toList.map a.eval):=by
     generalize c.args.toList=xs
     induction xs with
     | nil=>simp [aK]
     | cons x r ih=>simp only [gS,aK];exact ⟨_,_,rfl,D.ev x,ih⟩
    simp only [Cc]
    rw [TX D jz y _ _ (gC (gC h1 ha) h2)]
   ·rfl
theorem S2 (X:Ctx) {f:Fr} {t t':List SV} {b:List Slot} (G:Good f ⟨t,b⟩) {o:Oper} {l l':Nat} {FV:Op} {u':List (Nat × Slot)} (vf:Shape b l' FV u')
  (jz:fl FV=true->b[l']?=some .un) (hw:mP FV=true->rj o.op=false\/∃ys,fO o.op=some ys/\∀y∈ys,∀q∈u',gd ⟨t,b⟩ y≠some q.1)
  (ht:∀i∈jD o.op,t[i]?=t'[i]?):dN X ⟨t,b⟩ l o.op=dN X ⟨t',kr b u'⟩ l o.op:=by
 rw [<-Rw X (s:=⟨t,kr b u'⟩) (s':=⟨t',kr b u'⟩) l o.op ht rfl]
 rcases vf with rfl|⟨nF,y,rfl⟩|⟨AM,l0,y,rfl,_⟩|⟨AM,_,l0,y,z,rfl,_⟩
 ·rfl
 ·by_cases hr:rj o.op=false
  ·exact MX X t b _ l o.op hr
  ·cases hd:deep o.op with
   | true=>exact acH X G (jz nF) o.op hd l
   | false =>
    refine aeT X t b _ l o.op hd ?_
    intro x _ k hk
    obtain ⟨η,H,a,w,D⟩:=G
    have bL:=Ry D x hk
    have:l'≠k:=by
     rintro rfl
     exact bL (by rw [bR (jz nF)];rfl)
    simp only [kr]
    rw [fU this]
 ·rcases hw AM with h|⟨z,h1,h2⟩
  ·exact MX X t b _ l o.op h
  ·refine UH X t b _ l o.op h1 λe he k hk=>?_
   simp only [kr]
   rw [fU (by rintro rfl;exact h2 e he (_,y) (by simp) hk)]
 ·rcases hw AM with h|⟨z',h1,h2⟩
  ·exact MX X t b _ l o.op h
  ·refine UH X t b _ l o.op h1 λe he k hk=>?_
   simp only [kr]
   rw [fU (by rintro rfl;exact h2 e he (_,z) (by simp) hk),fU (by rintro rfl;exact h2 e he (_,y) (by simp) hk)]
theorem adF {y v:SV} (h:ky y=some v):eb y=eb v:=by
 unfold ky at h
 split at h<;>simp at h<;>subst h<;>rfl
theorem DT {s:St} {i:Nat} {y v:SV} (h1:s.t[i]?=some y) (h2:ky y=some v) (b:List Slot) (t:Tmp):gd ⟨s.t.set i v,b⟩ t=gd s t:=by
 unfold gd
 simp only
 rw [iN]
 split
 ·rename_i e;subst e
  rw [if_pos (bh.1 h1).1,h1]
  simp [adF h2]
 ·rfl
theorem S3 {t:List SV} {b b':List Slot} {d:Option Tmp} {x:SV} {i:Tmp} (h:∀j,d=some j->j≠i):gd ⟨lL d x t,b⟩ i=gd ⟨t,b'⟩ i:=by
 unfold gd;simp only;rw [HY _ _ _ _ h]
section
variable {P:Program} {X:Ctx} {f:Fr} {s:St}
theorem Good.guard {y v:SV} {i:Nat} (G:Good f s) (h1:s.t[i]?=some y) (h2:ky y=some v):Good f ⟨s.t.set i v,s.b⟩:=by
 obtain ⟨η,H,a,w,D⟩:=G
 exact ⟨η,H,a,w,(D.guard h1 h2).1⟩
theorem oy.gW {X:Ctx} {ops:List Oper} {o:Oper} {l:Nat} {s:St} {g:Option (Tmp × SV)} {x:SV} {u:List (Nat × Slot)} (h:oy X ops o l s g x u) {t:Tmp} (hm:je o.op=some t) :
  ∀q∈u,gd s t=some q.1\/(fl o.op=true/\q.1=l):=by
 unfold oy at h
 split at h
 ·exact SY X s l o.op h.2 hm
 ·exact h.elim
 ·obtain ⟨y,v,h1,h2,h3,h4⟩:=h
  split at h4
  ·intro q hq
   have:=SY X _ l o.op h4 hm q hq
   rwa [DT h1 h2] at this
  ·obtain ⟨_,rfl⟩:=h4
   simp
theorem S4 (G:Good f s) {ops:List Oper} {o o':Oper} {l l':Nat} (ap:v8 ops o' o) (fx:Sep o' o s) (jz:fl o'.op=true->s.b[l']?=some .un)
  {g':Option (Tmp × SV)} {x':SV} {u':List (Nat × Slot)} (h':oy X ops o' l' s g' x' u') (g:Option (Tmp × SV)) (x:SV) (u:List (Nat × Slot)) :
  oy X ops o l s g x u↔oy X ops o l ⟨lL o'.dst x' (ld g' s.t),kr s.b u'⟩ g x u:=by
 have vf:=h'.shape
 have kP:=h'.guard
 have Ah:=λt hm=>h'.gW (t:=t) hm
 have hw:mP o'.op=true->rj o.op=false\/∃ys,fO o.op=some ys/\∀y∈ys,∀q∈u',gd s y≠some q.1:=by
  intro AM
  rcases fx AM with h|⟨x,ys,h0,h3,h⟩
  ·exact .inl h
  ·refine .inr ⟨ys,h3,λy hy q hq=>?_⟩
   rcases Ah x h0 q hq with h1|⟨h1,h2⟩
   ·exact h _ h1 y hy
   ·obtain ⟨η,H,a,w,D⟩:=G
    intro hk
    refine Ry D (.tmp y) (show eb (ev s (.tmp y))=some l' by rw [<-h2];exact hk) ?_
    rw [bR (jz h1)];rfl
 have ht:∀i∈jD o.op,(lL o'.dst x' (ld g' s.t))[i]?=s.t[i]?:=by
  intro i hi
  rw [HY _ _ _ _ (λj hj e=>ap.d1 j hj (e ▸ hi)),MB]
  intro j v hv e
  subst e
  rcases kP with ⟨_,h⟩|⟨j',y,v',h1,h2,_⟩
  ·rw [h] at hv;cases hv
  ·rw [h2] at hv
   simp at hv
   exact ap.g1 j' h1 (hv.1 ▸ hi)
 unfold oy
 split
 ·rw [S2 X (t:=s.t) (b:=s.b) (l:=l) G vf jz hw (λi hi=>(ht i hi).symm)]
 ·exact vO
 ·rename_i i want hg
  have pE:gT ops o=some i:=by simp [gT,hg]
  have hd:∀j,o'.dst=some j->j≠i:=λj hj e=>ap.d2 j hj (e ▸ pE)
  have hi:(lL o'.dst x' (ld g' s.t))[i]?=(ld g' s.t)[i]?:=HY _ _ _ _ hd
  have key:∀v,(∃y,s.t[i]?=some y/\ky y=some v)↔(∃y,(lL o'.dst x' (ld g' s.t))[i]?=some y/\ky y=some v):=by
   intro v
   rw [hi]
   by_cases iU:∃v',g'=some (i,v')
   ·obtain ⟨v',e⟩:=iU
    rcases kP with ⟨_,h⟩|⟨j,y,v2,h1,h2,h3,h4⟩
    ·rw [h] at e;cases e
    ·rw [h2] at e
     simp at e
     obtain ⟨rfl,rfl⟩:=e
     rw [h2]
     have aP:=(bh.1 h3).1
     simp only [ld,nW aP]
     constructor
     ·rintro ⟨y',e1,e2⟩
      rw [h3] at e1;simp at e1;subst e1
      rw [h4] at e2;simp at e2;subst e2
      exact ⟨_,rfl,S1 h4⟩
     ·rintro ⟨y',e1,e2⟩
      simp at e1;subst e1
      rw [S1 h4] at e2;simp at e2;subst e2
      exact ⟨y,h3,h4⟩
   ·rw [MB]
    intro j v' hv e
    subst e
    exact iU ⟨v',hv⟩
  have Cs:∀v,(∃y,s.t[i]?=some y/\ky y=some v)->dN X ⟨s.t.set i v,s.b⟩ l o.op=dN X ⟨(lL o'.dst x' (ld g' s.t)).set i v,kr s.b u'⟩ l o.op:=by
   rintro v ⟨y,h1,h2⟩
   refine S2 X (t:=s.t.set i v) (b:=s.b) (l:=l) (G.guard h1 h2) vf jz (λAM=>(hw AM).imp id λ⟨YS,a1,a2⟩=>⟨YS,a1,λy' qq q hq=>by rw [DT h1 h2];exact a2 y' qq q hq⟩) (λk hk=>?_)
   by_cases Pt:i=k
   ·subst Pt
    have aP:=(bh.1 h1).1
    rw [nW aP,nW (by rw [abI,abH];exact aP)]
   ·rw [fU Pt,fU Pt,ht k hk]
  constructor
  ·rintro ⟨y,v,h1,h2,h3,h4⟩
   obtain ⟨y',e1,e2⟩:=(key v).1 ⟨y,h1,h2⟩
   refine ⟨y',v,e1,e2,h3,?_⟩
   rw [<-Cs v ⟨y,h1,h2⟩]
   exact h4
  ·rintro ⟨y',v,e1,e2,h3,h4⟩
   obtain ⟨y,h1,h2⟩:=(key v).2 ⟨y',e1,e2⟩
   refine ⟨y,v,h1,h2,h3,?_⟩
   rw [Cs v ⟨y,h1,h2⟩]
   exact h4
theorem Rz (l:Nat) (x:Slot):∀(u:List (Nat × Slot)) (b:List Slot),(∀p∈u,p.1≠l)->kr (b.set l x) u=(kr b u).set l x
 | [],b,_=>rfl
 | (k,y) :: u,b,h=>by
  simp only [kr]
  rw [Mc _ _ (h (k,y) (by simp)).symm]
  exact Rz l x u _ λp hp=>h p (by simp [hp])
theorem Ro:∀(u v:List (Nat × Slot)) (b:List Slot),(∀p∈u,∀q∈v,p.1≠q.1)->kr (kr b u) v=kr (kr b v) u
 | [],v,b,_=>rfl
 | (l,x) :: u,v,b,h=>by
  simp only [kr]
  rw [Ro u v _ λp hp q hq=>h p (by simp [hp]) q hq]
  rw [Rz l x v b λq hq=>(h (l,x) (by simp) q hq).symm]
theorem Mj (t:List SV) (i j:Nat) (x y:SV) (h:i≠j):(t.set i x).set j y=(t.set j y).set i x:=Mc _ _ h
theorem swap (G:Good f s) {ops:List Oper} {p j:Oper} {lp lj:Nat} (ap:v8 ops p j) (sp:Sep p j s) (sj:Sep j p s) (Pu:fl p.op=true->s.b[lp]?=some .un) (Pv:fl j.op=true->s.b[lj]?=some .un)
  (bL:fl p.op=true->fl j.op=true->lp≠lj) {s1 s2:St} (h1:Out X ops p lp s s1) (h2:Out X ops j lj s1 s2):∃C1,Out X ops j lj s C1/\Out X ops p lp C1 s2:=by
 rw [zI] at h1 h2
 obtain ⟨gp,xp,up,hp,rfl⟩:=h1
 obtain ⟨gj,xj,uj,hj,rfl⟩:=h2
 have AN:=(S4 G ap sp Pu hp gj xj uj).2 hj
 have o5:=(S4 G ap.symm sj Pv AN gp xp up).1 hp
 refine ⟨_,zI.2 ⟨gj,xj,uj,AN,rfl⟩,zI.2 ⟨gp,xp,up,o5,?_⟩⟩
 congr 1
 ·
  simp only
  have tV:=hp.guard
  have F6:=AN.guard
  have c1:∀(d:Option Tmp) (x:SV) (g:Option (Tmp × SV)) (t:List SV),(∀i k v,d=some i->g=some (k,v)->i≠k)->ld g (lL d x t)=lL d x (ld g t):=by
   intro d x g t h
   unfold ld lL
   cases d<;>cases g<;>try rfl
   rename_i i kv
   obtain ⟨k,v⟩:=kv
   exact Mj _ _ _ _ _ (h i k v rfl rfl)
  have c2:∀(d e:Option Tmp) (x y:SV) (t:List SV),(∀i k,d=some i->e=some k->i≠k)->lL e y (lL d x t)=lL d x (lL e y t):=by
   intro d e x y t h
   unfold lL
   cases d<;>cases e<;>try rfl
   rename_i i k
   exact Mj _ _ _ _ _ (h i k rfl rfl)
  have c3:ld gj (ld gp s.t)=ld gp (ld gj s.t):=by
   rcases tV with ⟨_,rfl⟩|⟨i,y,v,a1,rfl,a3,a4⟩
   ·rfl
   rcases F6 with ⟨_,rfl⟩|⟨k,y',v',b1,rfl,b3,b4⟩
   ·rfl
   by_cases e:i=k
   ·subst e
    rw [a3] at b3;simp at b3;subst b3
    rw [a4] at b4;simp at b4;subst b4
    rfl
   ·exact Mj _ _ _ _ _ e
  rw [c1 p.dst xp gj _ (by
   rintro i k v hd hg rfl
   rcases F6 with ⟨_,h⟩|⟨k,y',v',b1,h,_⟩
   ·rw [h] at hg;cases hg
   ·rw [h] at hg;simp at hg;exact ap.d2 i hd (by rw [b1,hg.1]))]
  rw [c2 p.dst j.dst xp xj _ (by rintro i k hd he rfl;exact ap.d3 i hd he)]
  rw [c1 j.dst xj gp _ (by
   rintro i k v hd hg rfl
   rcases tV with ⟨_,h⟩|⟨k,y',v',b1,h,_⟩
   ·rw [h] at hg;cases hg
   ·rw [h] at hg;simp at hg;exact ap.e2 i hd (by rw [b1,hg.1]))]
  rw [c3]
 ·
  refine Ro up uj s.b ?_
  have fx:=hp.shape
  have hsj:=AN.shape
  have ep:∀{b:List Slot} {l:Nat} {op:Op} {u:List (Nat × Slot)},Shape b l op u->∀q∈u,(q.1=l/\fl op=true)\/(mP op=true/\Nl b q.1):=by
   rintro b l op u (rfl|⟨h,y,rfl⟩|⟨h,l0,y,rfl,h2⟩|⟨h,h3,l0,y,z,rfl,h2⟩) q hq
   ·simp at hq
   ·simp at hq;subst hq;exact .inl ⟨rfl,h⟩
   ·simp at hq;subst hq;exact .inr ⟨h,h2⟩
   ·simp at hq
    rcases hq with rfl|rfl
    ·exact .inr ⟨h,h2⟩
    ·exact .inl ⟨rfl,h3⟩
  intro q hq r hr e
  rcases ep fx q hq with ⟨e1,a1⟩|⟨w1,z1,l1,YT⟩<;>rcases ep hsj r hr with ⟨e2,a2⟩|⟨w2,z2,l2,YU⟩
  ·exact bL a1 a2 (by rw [<-e1,<-e2,e])
  ·rw [<-e,e1,Pu a1] at l2
   simp at l2;subst l2;cases YU
  ·rw [e,e2,Pv a2] at l1
   simp at l1;subst l1;cases YT
  ·have rd:∀{o:Oper},mP o.op=true->rj o.op=true:=by
    intro o w
    cases hjj:o.op<;>rw [hjj] at w<;>simp [mP,TP] at w<;>rfl
   rcases sp w1 with h|⟨x,ys,h,mO,aiG⟩
   ·rw [rd w2] at h;cases h
   rcases sj w2 with h'|⟨x',YS,h',Xs,_⟩
   ·rw [rd w1] at h';cases h'
   have live:∀{o:Oper} {l k:Nat},(fl o.op=true->s.b[l]?=some .un)->fl o.op=true/\k=l->s.b[k]?=some z1\/s.b[k]?=some z2->False:=by
    rintro o l k hu ⟨ha,rfl⟩ (h|h)
    ·rw [hu ha] at h;simp at h;subst h;cases YT
    ·rw [hu ha] at h;simp at h;subst h;cases YU
   rcases hp.gW h q hq with a1|a1
   ·rcases AN.gW h' r hr with a2|a2
    ·exact aiG _ a1 x' (TQ h' mO) (by rw [a2,e])
    ·exact live Pv a2 (.inr l2)
   ·exact live Pu a1 (.inl l1)
theorem Se {o:Oper} {l:Nat} {x:SV} {u:List (Nat × Slot)} (h:(dN X s l o.op).out x u) (hn:newVar o.op=true) (hR:∀f S,X.sp f=some S->∀a,LF (S.res a)):∀k,eb x=some k->fl o.op=true/\k=l:=by
 cases ho:o.op<;>rw [ho] at hn h<;>try (cases hn;done)
 case call c =>
  obtain ⟨callee,args,argTypes⟩:=c
  cases callee with
  | value g =>
   simp only [dN] at h
   split at h<;>try exact h.elim
   unfold Cc at h
   split at h<;>try exact h.elim
   rename_i S hS
   intro k hk
   exfalso
   have:∃a,x=S.res a:=by
    split at h
    ·obtain ⟨a,_,h1,_⟩:=h;exact ⟨a,h1⟩
    ·obtain ⟨a,_,h1,_⟩:=h;exact ⟨a,h1⟩
   obtain ⟨a,rfl⟩:=this
   have h1:=hR _ _ hS a
   cases hq:S.res a<;>rw [hq] at h1 hk<;>simp [LF,eb] at h1 hk
  | invoke r m=>cases hn
  | builtin bi =>
   cases bi<;>try (cases hn;done)
   simp only [dN,xJ] at h
   split at h<;>try exact h.elim
   split at h
   all_goals
    first|unfold vY at h|unfold vV at h
    repeat' split at h
    all_goals try exact h.elim
    all_goals
     obtain ⟨_,_,rfl,_⟩:=h
     intro k hk
     exact ⟨rfl,by simpa [eb] using hk.symm⟩
 case buildSlice t n ps =>
  simp only [dN] at h
  unfold DP at h
  repeat' split at h
  all_goals try exact h.elim
  all_goals
   intro k hk
   first|obtain ⟨rfl,_⟩:=h|obtain ⟨_,_,rfl,_⟩:=h
   first|(cases hk;done)|exact ⟨rfl,by simpa [eb] using hk.symm⟩
 case makeSlice t n m =>
  simp only [dN] at h
  unfold DS at h
  repeat' split at h
  all_goals try exact h.elim
  all_goals
   intro k hk
   obtain ⟨_,rfl,_⟩:=h
   exact ⟨rfl,by simpa [eb] using hk.symm⟩
 case makeMap t r =>
  simp only [dN] at h
  unfold Eu at h
  repeat' split at h
  all_goals try exact h.elim
  all_goals
   intro k hk
   obtain ⟨rfl,_⟩:=h
   exact ⟨rfl,by simpa [eb] using hk.symm⟩
 case range t y =>
  simp only [dN] at h
  unfold ER at h
  repeat' split at h
  all_goals try exact h.elim
  all_goals
   intro k hk
   obtain ⟨rfl,_⟩:=h
   exact ⟨rfl,by simpa [eb] using hk.symm⟩
 all_goals
  simp only [dN] at h
  split at h<;>try exact h.elim
  intro k hk
  obtain ⟨rfl,_⟩:=h
  exact ⟨rfl,by simpa [eb] using hk.symm⟩
theorem ot.out {ops:List Oper} {o:Oper} {l:Nat} {s1:St} {Ks:Tmp->List Nat} (FA:ot ops Ks s) (mo:o∈ops) (hl:se ops Ks o l) (hR:∀f S,X.sp f=some S->∀a,LF (S.res a)) (h:Out X ops o l s s1):ot ops Ks s1:=by
 rw [zI] at h
 obtain ⟨g,x,u,hr,rfl⟩:=h
 refine ⟨λt A ht k hk=>?_,FA.cl,FA.J2⟩
 have Ct:(∀j,o.dst=some j->j≠t)->k∈Ks t:=by
  intro hd
  rw [S3 (b':=s.b) hd] at hk
  rcases hr.guard with ⟨_,rfl⟩|⟨i,y,v,_,rfl,h3,h4⟩
  ·exact FA.gW t A ht k hk
  ·rw [show gd ⟨ld (some (i,v)) s.t,s.b⟩ t=gd s t from DT h3 h4 s.b t] at hk
   exact FA.gW t A ht k hk
 by_cases hd:o.dst=some t
 ·have hx:eb x=some k:=by
   unfold gd at hk
   simp only [hd,lL] at hk
   by_cases aP:t < (ld g s.t).length
   ·rw [nW aP] at hk;exact hk
   ·rw [l7 (by rw [pZ];exact Nat.le_of_not_lt aP)] at hk;cases hk
  cases hn:newVar o.op with
  | true =>
   have dP:fl o.op=true/\k=l:=by
    unfold oy at hr
    split at hr
    ·exact Se hr.2 hn hR k hx
    ·exact hr.elim
    ·obtain ⟨y,v,h1,h2,h3,h4⟩:=hr
     split at h4
     ·exact Se h4 hn hR k hx
     ·rw [h4.1] at hx;cases hx
   rw [dP.2];exact hl t A hd hn dP.1 ht
  | false =>
   rcases EA hd mo (show qh (j8 ops 7) t ops=some A from ht) with h|⟨z,B,h1,h2,h3⟩
   ·rw [h] at hn;cases hn
   obtain ⟨⟨B',hB'⟩,Fo⟩:=FA.cl o mo t z A hd hn h1 ht
   refine Fo k (FA.gW z B' hB' k ?_)
   unfold oy at hr
   split at hr
   ·exact TW X s l o.op hr.2 h1 k hx
   ·exact hr.elim
   ·obtain ⟨y,v,g1,g2,g3,g4⟩:=hr
    split at g4
    ·have:=TW X _ l o.op g4 h1 k hx
     rwa [DT g1 g2] at this
    ·rw [g4.1] at hx;cases hx
 ·exact Ct λj hj e=>hd (by rw [hj,e])
theorem afQ {ops:List Oper} {o:Oper} {l k:Nat} {s1:St} (h:Out X ops o l s s1) (hk:s.b[k]?=some .un) (bL:fl o.op=true->l≠k):s1.b[k]?=some .un:=by
 rw [zI] at h
 obtain ⟨g,x,u,hr,rfl⟩:=h
 simp only
 rcases hr.shape with rfl|⟨h,y,rfl⟩|⟨h,l0,y,rfl,z,h2,Pw⟩|⟨h,h3,l0,y,z,rfl,z',h2,Pw⟩
 ·exact hk
 ·simp only [kr];rw [fU (bL h)];exact hk
 ·simp only [kr]
  rw [fU (by rintro rfl;rw [hk] at h2;simp at h2;subst h2;cases Pw)];exact hk
 ·simp only [kr]
  rw [fU (bL h3),fU (by rintro rfl;rw [hk] at h2;simp at h2;subst h2;cases Pw)];exact hk
end
end Go.Vc
