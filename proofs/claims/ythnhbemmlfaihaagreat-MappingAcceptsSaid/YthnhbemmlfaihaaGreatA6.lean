import Derived.Test.YthnhbemmlfaihaaGreatA5
set_option linter.unusedVariables false
set_option linter.unusedSimpArgs false
set_option maxRecDepth 10000
set_option maxHeartbeats 64000000
namespace Go.Vc
open Go
def jx (op:Op):List Tmp:=op.operands.toList.filterMap λ|.tmp t=>some t|_=>none
def gT (ops:List Oper) (o:Oper):Option Tmp:=(tv ops o).bind (·.1)
def qX:Op->Bool
 | .load ..|.store ..|.indexAddr ..|.slice ..|.call _|.lookup ..|.mapUpdate ..|.insert ..|.entry _=>true
 | _=>false
def Tl:Op->Bool
 | .call c=>match c.callee with
  | .builtin .append=>true
  | .builtin .copy=>true
  | .builtin .clear=>true
  | _=>false
 | _=>false
def mJ:Op->Bool
 | .store ..|.mapUpdate ..|.insert ..=>true
 | op=>Tl op
def deep:Op->Bool
 | .call c=>match c.callee with
  | .value _=>true
  | _=>false
 | _=>false
def tmpsOf (xs:List Operand):List Tmp:=xs.filterMap λ|.tmp t=>some t|_=>none
def xo:List Operand->Option Tmp
 | .tmp t :: _=>some t
 | _=>none
def iY:Op->Option Tmp
 | .store _ x _=>match x with|.tmp t=>some t|_=>none
 | .mapUpdate _ x _ _=>match x with|.tmp t=>some t|_=>none
 | .insert _ x _ _=>match x with|.tmp t=>some t|_=>none
 | .call c=>match c.callee with
  | .builtin .append=>xo c.args.toList
  | .builtin .copy=>xo c.args.toList
  | .builtin .clear=>xo c.args.toList
  | _=>none
 | _=>none
def fO:Op->Option (List Tmp)
 | .load _ x=>match x with|.tmp t=>some [t]|_=>none
 | .store _ x _=>match x with|.tmp t=>some [t]|_=>none
 | .lookup _ x _ _=>match x with|.tmp t=>some [t]|_=>none
 | .entry x=>match x with|.tmp t=>some [t]|_=>none
 | .mapUpdate _ x _ _=>match x with|.tmp t=>some [t]|_=>none
 | .insert _ x _ _=>match x with|.tmp t=>some [t]|_=>none
 | .indexAddr _ x _=>match x with|.tmp t=>some [t]|_=>none
 | .slice _ x _ _ mx=>match x,mx with|.tmp t,none=>some [t]|_,_=>none
 | .call c=>match c.callee with
  | .builtin _=>some (tmpsOf c.args.toList)
  | _=>none
 | _=>none
theorem abg {xs:List Operand} {t:Tmp} (h:xo xs=some t):t∈tmpsOf xs:=by
 unfold xo at h
 split at h
 ·simp at h;subst h;simp [tmpsOf]
 ·cases h
theorem Tm {op:Op} {t:Tmp} {ys:List Tmp} (h:iY op=some t) (h':fO op=some ys):t∈ys:=by
 cases op<;>try (cases h;done)
 case store ty x z=>cases x<;>simp [iY] at h;subst h;simp [fO] at h';subst h';simp
 case mapUpdate ty x y z=>cases x<;>simp [iY] at h;subst h;simp [fO] at h';subst h';simp
 case insert ty x y z=>cases x<;>simp [iY] at h;subst h;simp [fO] at h';subst h';simp
 case call c =>
  cases hc:c.callee with
  | value g=>simp [iY,hc] at h
  | invoke r m=>simp [iY,hc] at h
  | builtin b =>
   simp only [fO,hc,pL] at h'
   subst h'
   cases b<;>simp [iY,hc] at h<;>exact abg h
def newVar:Op->Bool
 | .alloc _|.box ..|.buildSlice ..|.makeSlice ..|.makeMap ..|.range ..=>true
 | .call c=>match c.callee with
  | .builtin .append=>true
  | .value _=>true
  | _=>false
 | _=>false
def tw:Op->Option Tmp
 | .fieldAddr _ x _=>match x with|.tmp t=>some t|_=>none
 | .indexAddr _ x _=>match x with|.tmp t=>some t|_=>none
 | .nilCheck x=>match x with|.tmp t=>some t|_=>none
 | .move x=>match x with|.tmp t=>some t|_=>none
 | .assign x=>match x with|.tmp t=>some t|_=>none
 | .slice _ x _ _ mx=>match x,mx with|.tmp t,none=>some t|_,_=>none
 | _=>none
def Ez (o:Oper) (t:Tmp):Bool:=match o.dst with|some d=>Nat.beq d t|none=>false
theorem LR {o:Oper} {t:Tmp}:Ez o t=true↔o.dst=some t:=by
 unfold Ez
 cases o.dst with
 | none=>simp
 | some d=>simp only [pL];exact ⟨lU,λh=>h ▸ LM d⟩
def pX (
     r:Tmp->Option (List Tmp)) (t:Tmp):List Oper->Option (List Tmp)
 | []=>some [t]
 | o :: os=>match Ez o t with
  | false=>pX r t os
  | true=>match newVar o.op with
   | true=>pX r t os
   | false=>match tw o.op with
    | none=>none
    | some x=>match r x,pX r t os with
     | some a,some b=>some (a++b)
     | _,_=>none
def j7 (ops:List Oper):Nat->Tmp->Option (List Tmp)
 | 0,_=>none
 | n+1,t=>pX (j7 ops n) t ops
theorem Hu {r r':Tmp->Option (List Tmp)} (h:∀x a,r x=some a->r' x=some a) {t:Tmp}:∀{os:List Oper} {A:List Tmp},pX r t os=some A->pX r' t os=some A
 | [],A,e=>e
 | o :: os,A,e=>by
  unfold pX at e ⊢
  split at e
  ·exact Hu h e
  ·split at e
   ·exact Hu h e
   ·split at e
    ·cases e
    ·split at e
     ·rename_i a b h1 h2
      simp only [h _ _ h1,Hu h h2]
      exact e
     ·cases e
theorem Tn {ops:List Oper}:∀{n:Nat} {t:Tmp} {A:List Tmp},j7 ops n t=some A->j7 ops (n+1) t=some A
 | 0,t,A,h=>by cases h
 | n+1,t,A,h=>Hu (λ_ _=>Tn) h
theorem Hv {r:Tmp->Option (List Tmp)} {t:Tmp}:∀{os:List Oper} {A:List Tmp},pX r t os=some A->t∈A
 | [],A,e=>by cases e;simp
 | o :: os,A,e=>by
  unfold pX at e
  split at e
  ·exact Hv e
  ·split at e
   ·exact Hv e
   ·split at e
    ·cases e
    ·split at e
     ·rename_i a b h1 h2
      cases e
      exact xd _ (Hv h2)
     ·cases e
theorem Eb {r:Tmp->Option (List Tmp)} {t:Tmp} {o:Oper} (hd:o.dst=some t):∀{os:List Oper} {A:List Tmp},o∈os->pX r t os=some A ->
  newVar o.op=true\/∃x B,tw o.op=some x/\r x=some B/\∀y∈B,y∈A
 | [],A,h,_=>by cases h
 | o' :: os,A,h,e=>by
  unfold pX at e
  split at e
  ·rename_i h1
   rcases cv.1 h with rfl|h
   ·rw [LR.2 hd] at h1;cases h1
   ·exact Eb hd h e
  ·split at e
   ·rename_i h1 h2
    rcases cv.1 h with rfl|h
    ·exact .inl h2
    ·exact Eb hd h e
   ·split at e
    ·cases e
    ·rename_i x h3
     split at e
     ·rename_i a b h4 h5
      cases e
      rcases cv.1 h with rfl|h
      ·exact .inr ⟨x,a,h3,h4,λy hy=>ui _ hy⟩
      ·rcases Eb hd h h5 with h6|⟨x,B,h6,h7,h8⟩
       ·exact .inl h6
       ·exact .inr ⟨x,B,h6,h7,λy hy=>xd _ (h8 y hy)⟩
     ·cases e
def tx:List Nat->List Nat->Bool
 | [],_=>true
 | a :: r,l=>(l.all λb=>!Nat.beq a b)&&tx r l
theorem Uj:∀{x y:List Nat},tx x y=true->∀l∈x,l∉y
 | [],_,_,l,hl=>by cases hl
 | a :: r,y,h,l,hl=>by
  simp only [tx,b9] at h
  rcases cv.1 hl with rfl|hl
  ·intro hy
   have:=gE.1 h.1 l hy
   simp at this
  ·exact Uj h.2 l hl
def zm (ops:List Oper) (A:List Tmp):List Tmp->Bool
 | []=>true
 | y :: r=>(match j7 ops 8 y with
  | some B=>tx A B
  | none=>false)&&zm ops A r
def JM (ops:List Oper) (p j:Oper):Bool :=
 match iY p.op,fO j.op with
 | some x,some ys=>match j7 ops 8 x with
  | some A=>zm ops A ys
  | none=>false
 | _,_=>false
structure CF (ops:List Oper) (p j:Oper) (x:Tmp) (ys:List Tmp):Prop where
 p:iY p.op=some x
 j:fO j.op=some ys
 ax:∃A,j7 ops 8 x=some A
 d:∀A,j7 ops 8 x=some A->∀y∈ys,∃B,j7 ops 8 y=some B/\tx A B=true
theorem Su {ops:List Oper} {A:List Tmp}:∀{ys:List Tmp},zm ops A ys=true->∀y∈ys,∃B,j7 ops 8 y=some B/\tx A B=true
 | [],_,y,hy=>by cases hy
 | z :: r,h,y,hy=>by
  simp only [zm,b9] at h
  rcases cv.1 hy with rfl|hy
  ·have h1:=h.1
   split at h1
   ·rename_i B hB;exact ⟨B,hB,h1⟩
   ·cases h1
  ·exact Su h.2 y hy
theorem To {ops:List Oper} {p j:Oper} (h:JM ops p j=true):∃x ys,CF ops p j x ys:=by
 unfold JM at h
 split at h
 ·rename_i x ys h1 h2
  split at h
  ·rename_i A h3
   exact ⟨x,ys,h1,h2,⟨A,h3⟩,λA' e1=>by rw [h3] at e1;cases e1;exact Su h⟩
  ·cases h
 ·cases h
def H5 (ops:List Oper) (p j:Oper):Bool :=
 (match p.dst with|some d=>!(jx j.op).contains d&&gT ops j != some d&&j.dst != some d|none=>true) &&
 (match j.dst with|some d=>!(jx p.op).contains d&&gT ops p != some d|none=>true) &&
 (match gT ops p with|some g=>!(jx j.op).contains g|none=>true) &&
 (match gT ops j with|some g=>!(jx p.op).contains g|none=>true)
def indep (ops:List Oper) (p j:Oper):Bool :=
 H5 ops p j&&((!(mJ p.op&&qX j.op)||JM ops p j)&&(!(mJ j.op&&qX p.op)||JM ops j p))
structure vM (ops:List Oper) (p j:Oper):Prop where
 d1:∀d,p.dst=some d->d∉jx j.op
 d2:∀d,p.dst=some d->gT ops j≠some d
 d3:∀d,p.dst=some d->j.dst≠some d
 e1:∀d,j.dst=some d->d∉jx p.op
 e2:∀d,j.dst=some d->gT ops p≠some d
 g1:∀g,gT ops p=some g->g∉jx j.op
 g2:∀g,gT ops j=some g->g∉jx p.op
structure tj (ops:List Oper) (p j:Oper):Prop where
 t:vM ops p j
 w1:mJ p.op=true->qX j.op=false\/∃x ys,CF ops p j x ys
 w2:mJ j.op=true->qX p.op=false\/∃x ys,CF ops j p x ys
theorem Rn {ops:List Oper} {p j:Oper} (h:H5 ops p j=true):vM ops p j:=by
 unfold H5 at h
 simp only [b9] at h
 obtain ⟨⟨⟨h1,h2⟩,h3⟩,h4⟩:=h
 constructor
 ·intro d hd;rw [hd] at h1;simp at h1;exact h1.1.1
 ·intro d hd;rw [hd] at h1;simp at h1;exact h1.1.2
 ·intro d hd;rw [hd] at h1;simp at h1;exact h1.2
 ·intro d hd;rw [hd] at h2;simp at h2;exact h2.1
 ·intro d hd;rw [hd] at h2;simp at h2;exact h2.2
 ·intro g hg;rw [hg] at h3;simpa using h3
 ·intro g hg;rw [hg] at h4;simpa using h4
theorem G5 {ops:List Oper} {p j:Oper} (h:indep ops p j=true):tj ops p j:=by
 unfold indep at h
 simp only [b9,nM,mX,Bool.and_eq_false_iff] at h
 obtain ⟨h0,h5,h6⟩:=h
 refine ⟨Rn h0,?_,?_⟩
 ·intro hw
  rcases h5 with (h5|h5)|h
  ·rw [hw] at h5;cases h5
  ·exact .inl h5
  ·exact .inr (To h)
 ·intro hw
  rcases h6 with (h6|h6)|h
  ·rw [hw] at h6;cases h6
  ·exact .inl h6
  ·exact .inr (To h)
theorem vM.symm {ops:List Oper} {p j:Oper} (h:vM ops p j):vM ops j p :=
 ⟨h.e1,h.e2,λd hd e=>h.d3 d e hd,h.d1,h.d2,h.g2,h.g1⟩
theorem tj.symm {ops:List Oper} {p j:Oper} (h:tj ops p j):tj ops j p:=⟨h.t.symm,h.w2,h.w1⟩
theorem adb {s s':St} {x:Operand} (h:∀t,x=.tmp t->s.t[t]?=s'.t[t]?):ev s x=ev s' x:=by
 cases x with
 | tmp t=>simp only [ev,h t rfl]
 | _=>rfl
theorem GZ {c:Call} {x:Operand} (h:x∈c.args.toList):x∈c.operands:=by
 unfold Call.operands
 exact Array.mem_append.2 (.inr (Array.mem_toList_iff.1 h))
theorem Q1 (X:Ctx) {s s':St} (l:Nat) (op:Op) (h:∀t∈jx op,s.t[t]?=s'.t[t]?) (hb:s.b=s'.b):dJ X s l op=dJ X s' l op:=by
 have e:∀x∈op.operands,ev s x=ev s' x:=λx hx=>adb λt ht=>h t (by
  subst ht
  exact Bv.2 ⟨.tmp t,by simpa using hx,rfl⟩)
 have Wg:∀ps:Array (Nat × Operand),(∀x∈ps.map (·.2),ev s x=ev s' x)->(ps.toList.map λp=>(p.1,ev s p.2))=(ps.toList.map λp=>(p.1,ev s' p.2)):=λps hp =>
  rI λp hm=>by rw [hp p.2 (Array.mem_map.2 ⟨p,by simpa using hm,rfl⟩)]
 cases op<;>simp only [Op.operands] at e<;>simp only [dJ,<-hb]
 case call c =>
  have ha:c.args.toList.map (ev s)=c.args.toList.map (ev s'):=rI λx hx=>e x (GZ hx)
  cases hc:c.callee with
  | value g =>
   have hg:ev s g=ev s' g:=e g (by simp [Call.operands,hc])
   simp only [hg,ha]
  | invoke r m=>rfl
  | builtin b=>simp only [ha]
 case build t ps=>rw [Wg ps (λx hx=>e x (by simpa using hx))]
 case buildSlice t n ps=>rw [Wg ps (λx hx=>e x (by simpa using hx))]
 case makeFunc fn first captured =>
  rw [rI (l:=first.toList) (f:=ev s) (g:=ev s') λx hx=>e x (by simp [<-Array.mem_toList_iff,hx]),
   rI (l:=captured.toList) (f:=ev s) (g:=ev s') λx hx=>e x (by simp [<-Array.mem_toList_iff,hx])]
 case slice t x lo hi mx=>cases lo<;>cases hi<;>cases mx<;>simp_all
 all_goals first|rfl|(simp_all;done)
def dZ:SV->Option Nat
 | .ptr l _=>some l
 | .fB l _ _ _=>some l
 | .own l=>some l
 | .eA l _ _ _=>some l
 | .fA l=>some l
 | .fI l=>some l
 | _=>none
theorem Uk (X:Ctx) {b b':List Slot} (t:TypeId) {x:SV} (h:∀l,dZ x=some l->b[l]?=b'[l]?):zw X b t x=zw X b' t x:=by
 unfold zw
 cases x<;>simp only [dZ] at h<;>first|rfl|(simp only [h _ rfl])
theorem Tp (X:Ctx) {b b':List Slot} (t:TypeId) {x y:SV} (h:∀l,dZ x=some l->b[l]?=b'[l]?):xy X b t x y=xy X b' t x y:=by
 unfold xy
 cases x<;>simp only [dZ] at h<;>first|rfl|(simp only [h _ rfl])
theorem Sv (X:Ctx) {b b':List Slot} (t:TypeId) {x y:SV} (ok:Bool) (h:∀l,dZ x=some l->b[l]?=b'[l]?):zf X b t x y ok=zf X b' t x y ok:=by
 unfold zf
 cases x<;>simp only [dZ] at h<;>first|rfl|(simp only [h _ rfl])
theorem Tq {b b':List Slot} {x:SV} (h:∀l,dZ x=some l->b[l]?=b'[l]?):zl b x=zl b' x:=by
 unfold zl
 cases x with
 | ptr l off =>
  cases off with
  | zero=>simp only [h l rfl]
  | succ n=>rfl
 | _=>rfl
theorem GW (X:Ctx) {b b':List Slot} (t:TypeId) {x y z:SV} (h:∀l,dZ x=some l->b[l]?=b'[l]?):vy X b t x y z=vy X b' t x y z:=by
 unfold vy
 cases x<;>simp only [dZ] at h<;>first|rfl|(simp only [h _ rfl])
theorem Q2 (X:Ctx) {b b':List Slot} (t:TypeId) {x y:SV} (h:∀l,dZ x=some l->b[l]?=b'[l]?):wW X b t x y=wW X b' t x y:=by
 unfold wW
 cases x<;>simp only [dZ] at h<;>first|rfl|(simp only [h _ rfl])
theorem aft (X:Ctx) {b b':List Slot} (t:TypeId) {x:SV} (h:∀l,dZ x=some l->b[l]?=b'[l]?):zL X b t x=zL X b' t x:=by
 unfold zL
 cases X.tt t with
 | none=>rfl
 | some i =>
  simp only
  cases i.d<;>cases x<;>simp only [dZ] at h<;>first|rfl|(simp only [h _ rfl])
theorem Wh {b b':List Slot} {x:SV} (h:∀l,dZ x=some l->b[l]?=b'[l]?):top b x=top b' x:=by
 cases x<;>simp only [dZ] at h<;>first|rfl|(simp only [top,h _ rfl])
theorem acd (X:Ctx) {b b':List Slot} (l:Nat) (t:TypeId) {x y:SV} (h:∀l,dZ x=some l->b[l]?=b'[l]?) (h':∀l,dZ y=some l->b[l]?=b'[l]?) :
  vJ X b l t x y=vJ X b' l t x y:=by
 unfold vJ
 rw [Wh h']
 by_cases hl:∃l,dZ x=some l
 ·obtain ⟨l0,hl⟩:=hl
  have hb:=h l0 hl
  cases x<;>simp only [dZ] at hl<;>first|(cases hl;done)|(cases hl;simp only [hb])
 ·cases x<;>first|exact absurd ⟨_,rfl⟩ hl|rfl|((repeat' (first|rfl|split))<;>simp_all;done)
theorem abD (X:Ctx) {b b':List Slot} (l:Nat) (t t':TypeId) {x y:SV} (h:∀l,dZ x=some l->b[l]?=b'[l]?):vF X b l t t' x y=vF X b' l t t' x y:=by
 unfold vF
 cases x<;>simp only [dZ] at h<;>first|rfl|(simp only [h _ rfl])
theorem aer (X:Ctx) {b b':List Slot} (t:TypeId) {x y:SV} (h:∀l,dZ x=some l->b[l]?=b'[l]?) (h':∀l,dZ y=some l->b[l]?=b'[l]?) :
  xG X b t x y=xG X b' t x y:=by
 unfold xG
 rw [Wh h']
 cases X.tt t with
 | none=>rfl
 | some i =>
  simp only
  cases i.d<;>try rfl
  rename_i e
  simp only
  cases X.tt e with
  | none=>cases x<;>rfl
  | some k=>cases x<;>simp only [dZ] at h<;>first|rfl|simp only [h _ rfl]
theorem Tr (X:Ctx) {b b':List Slot} (l:Nat) (t:TypeId) {x:SV} (lo hi mx:Option SV) (h:∀l,dZ x=some l->b[l]?=b'[l]?) :
  xA X b l t x lo hi mx=xA X b' l t x lo hi mx:=by
 unfold xA
 cases X.tt t with
 | none=>rfl
 | some i =>
  simp only
  cases i.d<;>try rfl
  rename_i e
  simp only
  cases X.tt e with
  | none=>rfl
  | some k=>cases mx<;>cases x<;>simp only [dZ] at h<;>first|rfl|simp only [h _ rfl]
theorem ade (X:Ctx) {b b':List Slot} (t:TypeId) {x:SV} (h:∀l,dZ x=some l->b[l]?=b'[l]?):xz X b t x=xz X b' t x:=by
 unfold xz
 cases X.tt t with
 | none=>rfl
 | some i =>
  simp only
  cases i.d<;>try rfl
  rename_i e
  simp only
  cases X.tt e with
  | none=>rfl
  | some k=>cases x<;>simp only [dZ] at h<;>first|rfl|simp only [h _ rfl]
theorem RI (X:Ctx) {b b':List Slot} (l:Nat) (bi:Builtin) (ts:List TypeId) {xs:List SV} (h:∀x∈xs,∀l,dZ x=some l->b[l]?=b'[l]?) :
  xf X b l bi ts xs=xf X b' l bi ts xs:=by
 unfold xf
 cases bi<;>try rfl
 ·simp only
  split
  ·rw [acd X l _ (h _ (by simp)) (h _ (by simp)),abD X l _ _ (h _ (by simp))]
  ·rfl
 ·simp only
  split
  ·rw [ade X _ (h _ (by simp))]
  ·rfl
 ·simp only
  split
  ·rw [aer X _ (h _ (by simp)) (h _ (by simp))]
  ·rfl
 ·simp only
  split
  ·rw [aft X _ (h _ (by simp))]
  ·rfl
theorem MB (X:Ctx) (t:List SV) (b b':List Slot) (l:Nat) (op:Op) (h:qX op=false):dJ X ⟨t,b⟩ l op=dJ X ⟨t,b'⟩ l op:=by
 cases op<;>simp [qX] at h<;>rfl
theorem aes (X:Ctx) (t:List SV) (b b':List Slot) (l:Nat) (op:Op) (hd:deep op=false) (h:∀x∈op.operands,∀l,dZ (ev ⟨t,b⟩ x)=some l->b[l]?=b'[l]?) :
  dJ X ⟨t,b⟩ l op=dJ X ⟨t,b'⟩ l op:=by
 cases op<;>try rfl
 case load ty x=>exact Uk X ty (h x (by simp [Op.operands]))
 case store ty x y=>exact Tp X ty (h x (by simp [Op.operands]))
 case indexAddr ty x y=>exact Q2 X ty (h x (by simp [Op.operands]))
 case lookup ty x y ok=>exact Sv X ty ok (h x (by simp [Op.operands]))
 case entry x=>exact Tq (h x (by simp [Op.operands]))
 case mapUpdate ty x y z=>exact GW X ty (h x (by simp [Op.operands]))
 case insert ty x y z=>exact GW X ty (h x (by simp [Op.operands]))
 case slice ty x lo hi mx =>
  have e:∀x,ev ⟨t,b⟩ x=ev ⟨t,b'⟩ x:=λx=>by cases x<;>rfl
  have e':ev ⟨t,b⟩=ev ⟨t,b'⟩:=funext e
  simp only [dJ,<-e']
  exact Tr X l ty _ _ _ (h x (by simp [Op.operands]))
 case call c =>
  simp only [dJ]
  cases hc:c.callee with
  | value g=>simp [deep,hc] at hd
  | invoke r m=>rfl
  | builtin bi =>
   simp only
   have e:c.args.toList.map (ev ⟨t,b⟩)=c.args.toList.map (ev ⟨t,b'⟩):=rI λx _=>by cases x<;>rfl
   rw [<-e]
   refine RI X l bi _ λy hy=>?_
   obtain ⟨x,hx,rfl⟩:=jw.1 hy
   exact h x (by simp only [Op.operands];exact GZ hx)
def fZ (s:St) (t:Tmp):Option Nat:=dZ ((s.t[t]?).getD .any)
theorem aet (v:Value):dZ (wi v)=none:=by
 have h1:∀v,dZ (jz v)=none:=λv=>by unfold jz;split<;>rfl
 unfold wi
 split
 ·rfl
 ·exact h1 _
theorem Ul (X:Ctx) (t:List SV) (b b':List Slot) (l:Nat) (op:Op) {ys:List Tmp} (hm:fO op=some ys) (h:∀y∈ys,∀l,fZ ⟨t,b⟩ y=some l->b[l]?=b'[l]?) :
  dJ X ⟨t,b⟩ l op=dJ X ⟨t,b'⟩ l op:=by
 cases op<;>try (cases hm;done)
 case load ty x =>
  cases x<;>simp [fO] at hm
  subst hm
  exact Uk X ty (h _ (by simp))
 case store ty x z =>
  cases x<;>simp [fO] at hm
  subst hm
  have e:ev ⟨t,b⟩ z=ev ⟨t,b'⟩ z:=by cases z<;>rfl
  simp only [dJ,e]
  exact Tp X ty (h _ (by simp))
 case indexAddr ty x z =>
  cases x<;>simp [fO] at hm
  subst hm
  have e:ev ⟨t,b⟩ z=ev ⟨t,b'⟩ z:=by cases z<;>rfl
  simp only [dJ,e]
  exact Q2 X ty (h _ (by simp))
 case entry x =>
  cases x<;>simp [fO] at hm
  subst hm
  exact Tq (h _ (by simp))
 case lookup ty x z ok =>
  cases x<;>simp [fO] at hm
  subst hm
  have e:ev ⟨t,b⟩ z=ev ⟨t,b'⟩ z:=by cases z<;>rfl
  simp only [dJ,e]
  exact Sv X ty ok (h _ (by simp))
 case mapUpdate ty x z z' =>
  cases x<;>simp [fO] at hm
  subst hm
  have e:ev ⟨t,b⟩ z=ev ⟨t,b'⟩ z:=by cases z<;>rfl
  have e':ev ⟨t,b⟩ z'=ev ⟨t,b'⟩ z':=by cases z'<;>rfl
  simp only [dJ,e,e']
  exact GW X ty (h _ (by simp))
 case insert ty x z z' =>
  cases x<;>simp [fO] at hm
  subst hm
  have e:ev ⟨t,b⟩ z=ev ⟨t,b'⟩ z:=by cases z<;>rfl
  have e':ev ⟨t,b⟩ z'=ev ⟨t,b'⟩ z':=by cases z'<;>rfl
  simp only [dJ,e,e']
  exact GW X ty (h _ (by simp))
 case slice ty x lo hi mx =>
  cases x<;>cases mx<;>simp [fO] at hm
  subst hm
  have e:∀x,ev ⟨t,b⟩ x=ev ⟨t,b'⟩ x:=λx=>by cases x<;>rfl
  have e':ev ⟨t,b⟩=ev ⟨t,b'⟩:=funext e
  simp only [dJ,<-e']
  exact Tr X l ty _ _ _ (h _ (by simp))
 case call c =>
  simp only [dJ]
  cases hc:c.callee with
  | value g=>simp [fO,hc] at hm
  | invoke r m=>rfl
  | builtin bi =>
   simp only [fO,hc,pL] at hm
   subst hm
   simp only
   have e:c.args.toList.map (ev ⟨t,b⟩)=c.args.toList.map (ev ⟨t,b'⟩):=rI λx _=>by cases x<;>rfl
   rw [<-e]
   refine RI X l bi _ λy hy=>?_
   obtain ⟨x,hx,rfl⟩:=jw.1 hy
   cases x with
   | tmp z=>exact h z (Bv.2 ⟨.tmp z,hx,rfl⟩)
   | const v =>
    intro l hl
    have:dZ (wi v)=some l:=hl
    rw [aet] at this;cases this
   | global g=>intro l hl;cases hl
   | func f=>intro l hl;cases hl
theorem GQ (X:Ctx) (s:St) {ty:TypeId} {z:Operand} {y y':SV} {x:SV} {u:List (Nat × Slot)} (h:(vy X s.b ty (ev s z) y y').out x u) :
  ∃k sl,dZ (ev s z)=some k/\u=[(k,sl)]/\∃x0,s.b[k]?=some x0/\x0.live=.live:=by
 unfold vy at h
 split at h<;>try exact h.elim
 split at h<;>try exact h.elim
 split at h<;>try exact h.elim
 split at h<;>try exact h.elim
 split at h<;>try exact h.elim
 rename_i k e
 split at h<;>try exact h.elim
 rename_i hs
 split at h<;>try exact h.elim
 split at h<;>try exact h.elim
 obtain ⟨_,_,_,rfl⟩:=h
 exact ⟨k,_,by rw [e];rfl,rfl,_,hs,rfl⟩
theorem Sw (X:Ctx) (s:St) (l:Nat) (op:Op) {x:SV} {u:List (Nat × Slot)} (h:(dJ X s l op).out x u) {t:Tmp} (hm:iY op=some t) :
  ∀q∈u,fZ s t=some q.1\/(fq op=true/\q.1=l):=by
 cases op<;>try (cases hm;done)
 case store ty z z' =>
  cases z<;>simp [iY] at hm
  rename_i t'
  subst hm
  simp only [dJ] at h
  unfold xy at h
  split at h<;>try exact h.elim
  split at h<;>try exact h.elim
  split at h
  ·rename_i k off e
   repeat' split at h
   all_goals try exact h.elim
   obtain rfl:=h.2
   intro q hq;simp at hq;subst hq
   have e':fZ s t'=dZ (ev s (.tmp t')):=rfl
   left;rw [e',e];rfl
  ·rename_i k sz j off e
   repeat' split at h
   all_goals try exact h.elim
   obtain ⟨_,_,_,rfl⟩:=h
   intro q hq;simp at hq;subst hq
   have e':fZ s t'=dZ (ev s (.tmp t')):=rfl
   left;rw [e',e];rfl
  ·exact h.elim
 case mapUpdate ty z z' z'' =>
  cases z<;>simp [iY] at hm
  rename_i t'
  subst hm
  obtain ⟨k,sl,h1,rfl,_⟩:=GQ X s h
  intro q hq;simp at hq;subst hq
  exact .inl h1
 case insert ty z z' z'' =>
  cases z<;>simp [iY] at hm
  rename_i t'
  subst hm
  obtain ⟨k,sl,h1,rfl,_⟩:=GQ X s h
  intro q hq;simp at hq;subst hq
  exact .inl h1
 case call c =>
  obtain ⟨callee,args,argTypes⟩:=c
  simp only [dJ] at h
  cases callee with
  | value g=>simp [iY] at hm
  | invoke r m=>simp [iY] at hm
  | builtin bi =>
   simp only at h
   have hd:∀{xs:List Operand} {a b:SV},xo xs=some t->xs.map (ev s)=[a,b]->fZ s t=dZ a:=by
    intro xs a b h1 h2
    unfold xo at h1
    split at h1
    ·simp at h1;subst h1
     simp only [ig,Hn] at h2
     rw [<-h2.1];rfl
    ·cases h1
   unfold xf at h
   split at h<;>simp [iY] at hm
   ·split at h<;>try exact h.elim
    rename_i y z CG
    have hl:=hd hm (by assumption)
    split at h
    ·unfold vJ at h
     repeat' split at h
     all_goals try exact h.elim
     iterate 2
      obtain ⟨_,_,_,rfl⟩:=h
      intro q hq;simp at hq
      rcases hq with rfl|rfl
      ·left;rw [hl];rfl
      ·right;exact ⟨rfl,rfl⟩
     all_goals
      obtain ⟨_,_,_,rfl⟩:=h
      intro q hq;simp at hq;subst hq
      right;exact ⟨rfl,rfl⟩
    ·unfold vF at h
     repeat' split at h
     all_goals try exact h.elim
     ·obtain ⟨_,_,_,rfl⟩:=h
      intro q hq;simp at hq;subst hq
      right;exact ⟨rfl,rfl⟩
     obtain ⟨_,_,_,rfl⟩:=h
     intro q hq;simp at hq
     rcases hq with rfl|rfl
     ·left;rw [hl];rfl
     ·right;exact ⟨rfl,rfl⟩
   ·split at h<;>try exact h.elim
    have hl:=hd hm (by assumption)
    split at h<;>try exact h.elim
    unfold xG at h
    repeat' split at h
    all_goals try exact h.elim
    obtain ⟨_,_,_,rfl⟩:=h
    intro q hq;simp at hq;subst hq
    left;rw [hl];rfl
   ·split at h<;>try exact h.elim
    rename_i ty y O3 CG
    have hl:fZ s t=dZ y:=by
     unfold xo at hm
     split at hm
     ·rename_i e1
      simp at hm;subst hm
      rw [e1] at CG
      simp only [ig,Hn] at CG
      rw [<-CG.1];rfl
     ·cases hm
    unfold xz at h
    repeat' split at h
    all_goals try exact h.elim
    obtain ⟨_,_,_,rfl⟩:=h
    intro q hq;simp at hq;subst hq
    left;rw [hl];rfl
   ·exact h.elim
theorem Ts (X:Ctx) (s:St) (l:Nat) (op:Op) {x:SV} {u:List (Nat × Slot)} (h:(dJ X s l op).out x u) {t:Tmp} (hm:tw op=some t) :
  ∀k,dZ x=some k->fZ s t=some k:=by
 have key:∀z,z=ev s (.tmp t)->∀k,dZ z=some k->fZ s t=some k:=by rintro z rfl k hk;exact hk
 cases op<;>try (cases hm;done)
 case move z =>
  cases z<;>simp [tw] at hm
  subst hm
  obtain ⟨rfl,_⟩:=h
  exact key _ rfl
 case assign z =>
  cases z<;>simp [tw] at hm
  subst hm
  obtain ⟨rfl,_⟩:=h
  exact key _ rfl
 case nilCheck z =>
  cases z<;>simp [tw] at hm
  subst hm
  simp only [dJ] at h
  split at h<;>first|exact h.elim|skip
  ·rename_i e;obtain ⟨rfl,_⟩:=h;exact key _ e.symm
  ·rename_i e;obtain ⟨rfl,_⟩:=h;exact key _ e.symm
  ·obtain ⟨rfl,_⟩:=h;intro k hk;cases hk
 case fieldAddr ty z j =>
  cases z<;>simp [tw] at hm
  subst hm
  rename_i t
  simp only [dJ] at h
  generalize hz:ev s (.tmp t)=z at h
  unfold Du at h
  repeat' split at h
  all_goals first|exact h.elim|skip
  all_goals
   obtain ⟨rfl,_⟩:=h
   intro k hk
   exact key _ hz.symm k hk
 case slice ty z lo hi mx =>
  cases z<;>cases mx<;>simp [tw] at hm
  subst hm
  rename_i t
  have hc:∀a b,clip a b none=false:=λa b=>by unfold clip;split<;>simp_all
  simp only [dJ,yT] at h
  generalize hz:ev s (.tmp t)=z at h
  unfold xA at h
  simp only [hc,Bool.false_and,mV,if_false] at h
  repeat' split at h
  all_goals first|exact h.elim|skip
  all_goals
   intro k hk
   first
   | (obtain ⟨_,_,rfl,_⟩:=h;cases hk;done)
   | (obtain ⟨_,rfl,_⟩:=h;first|(cases hk;done)|exact key _ hz.symm k hk)
   | (obtain ⟨rfl,_⟩:=h;cases hk;done)
 case indexAddr ty z ix =>
  cases z<;>simp [tw] at hm
  subst hm
  rename_i t
  simp only [dJ] at h
  generalize hz:ev s (.tmp t)=z at h
  unfold wW at h
  repeat' split at h
  all_goals first|exact h.elim|skip
  all_goals
   intro k hk
   first
   | (obtain ⟨_,_,rfl,_⟩:=h;first|(cases hk;done)|exact key _ hz.symm k hk)
   | (obtain ⟨rfl,_⟩:=h;first|(cases hk;done)|exact key _ hz.symm k hk)
   | (obtain ⟨_,rfl,_⟩:=h;exact key _ hz.symm k hk)
def zn (ops:List Oper) (lb:List (Oper × Nat)) (s:St) (t:Tmp):List Nat :=
 (match fZ s t with|some l=>[l]|none=>[])++(lb.filterMap λp=>match Ez p.1 t&&newVar p.1.op&&fq p.1.op with|true=>some p.2|false=>none)
def pa (ops:List Oper) (lb:List (Oper × Nat)) (s:St) (t:Tmp):List Nat:=match j7 ops 8 t with
 | some A=>A.flatMap (zn ops lb s)
 | none=>[]
structure nY (ops:List Oper) (K:Tmp->List Nat) (s:St):Prop where
 gK:∀t A,j7 ops 8 t=some A->∀l,fZ s t=some l->l∈K t
 cl:∀o∈ops,∀t x A,o.dst=some t->newVar o.op=false->tw o.op=some x->j7 ops 8 t=some A->(∃B,j7 ops 8 x=some B)/\∀l∈K x,l∈K t
 JN:∀p∈ops,∀j∈ops,∀x ys,CF ops p j x ys->mJ p.op=true->∀y∈ys,∀l∈K x,l∉K y
def rW (ops:List Oper) (K:Tmp->List Nat) (o:Oper) (l:Nat):Prop:=∀t A,o.dst=some t->newVar o.op=true->fq o.op=true->j7 ops 8 t=some A->l∈K t
theorem Hw {ops:List Oper} {lb:List (Oper × Nat)} {s:St}:∀o∈ops,∀t x A,o.dst=some t->newVar o.op=false->tw o.op=some x->j7 ops 8 t=some A ->
  (∃B,j7 ops 8 x=some B)/\∀l∈pa ops lb s x,l∈pa ops lb s t:=by
 intro o ho t x A hd hn hx hA
 have hA':pX (j7 ops 7) t ops=some A:=hA
 rcases Eb hd ho hA' with h|⟨x',B,h1,h2,h3⟩
 ·rw [h] at hn;cases hn
 ·rw [hx] at h1;cases h1
  have h4:=Tn h2
  refine ⟨⟨B,h4⟩,λl hl=>?_⟩
  unfold pa at hl ⊢
  rw [h4] at hl
  rw [hA]
  obtain ⟨y,hy,hl⟩:=DF.1 hl
  exact DF.2 ⟨y,h3 y hy,hl⟩
theorem Dt {ops:List Oper} {lb:List (Oper × Nat)} {s:St} {t:Tmp} {A:List Tmp} (h:j7 ops 8 t=some A) {l:Nat} (hl:l∈zn ops lb s t):l∈pa ops lb s t:=by
 unfold pa
 rw [h]
 exact DF.2 ⟨t,Hv (show pX (j7 ops 7) t ops=some A from h),hl⟩
theorem nY.ne {ops:List Oper} {K:Tmp->List Nat} {s:St} (h:nY ops K s) {p j:Oper} (hp:p∈ops) (hj:j∈ops) {x:Tmp} {ys:List Tmp} (F:CF ops p j x ys) (hw:mJ p.op=true) {l:Nat} (hx:fZ s x=some l)
  {y:Tmp} (hm:y∈ys):fZ s y≠some l:=λhy=>by
 obtain ⟨A,hA⟩:=F.ax
 obtain ⟨B,hB,_⟩:=F.d A hA y hm
 exact h.JN p hp j hj x ys F hw y hm l (h.gK x A hA l hx) (h.gK y B hB l hy)
def Sep (p j:Oper) (s:St):Prop:=mJ p.op=true->qX j.op=false\/∃x ys,iY p.op=some x/\fO j.op=some ys/\∀l,fZ s x=some l->∀y∈ys,fZ s y≠some l
theorem tj.sep {ops:List Oper} {K:Tmp->List Nat} {s:St} {p j:Oper} (h:tj ops p j) (FA:nY ops K s) (hp:p∈ops) (hj:j∈ops):Sep p j s:=λhw=>by
 rcases h.w1 hw with h1|⟨x,ys,F⟩
 ·exact .inl h1
 ·exact .inr ⟨x,ys,F.p,F.j,λl hl y hy=>FA.ne hp hj F hw hl hy⟩
def MV (b:List Slot) (l:Nat):Prop:=∃z,b[l]?=some z/\z.live=.live
def Shape (b:List Slot) (l:Nat) (op:Op) (u:List (Nat × Slot)):Prop :=
 u=[]\/(fq op=true/\∃y,u=[(l,y)])\/(mJ op=true/\∃l0 y,u=[(l0,y)]/\MV b l0) \/
  (mJ op=true/\fq op=true/\∃l0 y z,u=[(l0,y),(l,z)]/\MV b l0)
theorem Sx (X:Ctx) (s:St) (l:Nat) (op:Op) {x:SV} {u:List (Nat × Slot)} (h:(dJ X s l op).out x u):Shape s.b l op u:=by
 have no:∀{A:dN},A.out x u->(∀x' u',A.out x' u'->u'=[])->Shape s.b l op u:=λh1 h2=>.inl (h2 _ _ h1)
 cases op<;>simp only [dJ] at h<;>try exact h.elim
 case move y=>exact .inl h.2
 case assign y=>exact .inl h.2
 case pick c y z =>
  unfold IA at h
  split at h<;>try (first|exact h.elim|exact .inl h.2)
  split at h<;>first|exact h.elim|exact .inl h.2
 case alloc e =>
  split at h<;>first|exact h.elim|exact .inr (.inl ⟨rfl,_,h.2⟩)
 case box e y =>
  split at h<;>first|exact h.elim|exact .inr (.inl ⟨rfl,_,h.2⟩)
 case build t ps =>
  unfold HV at h
  repeat' split at h
  all_goals first|exact h.elim|exact .inl h.2
 case buildSlice t n ps =>
  unfold Ds at h
  repeat' split at h
  all_goals first|exact h.elim|exact .inl h.2|exact .inr (.inl ⟨rfl,_,h.2⟩)|(obtain ⟨_,_,_,h⟩:=h;exact .inr (.inl ⟨rfl,_,h⟩))
 case load t y =>
  unfold zw at h
  repeat' split at h
  all_goals first|exact h.elim|exact .inl h.2|(obtain ⟨_,_,_,h⟩:=h;exact .inl h)
 case store t y z =>
  unfold xy at h
  repeat' split at h
  all_goals try exact h.elim
  ·rename_i hs _
   exact .inr (.inr (.inl ⟨rfl,_,_,h.2,_,hs,rfl⟩))
  ·rename_i hs _
   obtain ⟨_,_,_,h⟩:=h
   exact .inr (.inr (.inl ⟨rfl,_,_,h,_,hs,rfl⟩))
 case mapUpdate t y z z' =>
  obtain ⟨k,sl,_,rfl,x0,hs,hl⟩:=GQ X s h
  exact .inr (.inr (.inl ⟨rfl,_,_,rfl,_,hs,hl⟩))
 case insert t y z z' =>
  obtain ⟨k,sl,_,rfl,x0,hs,hl⟩:=GQ X s h
  exact .inr (.inr (.inl ⟨rfl,_,_,rfl,_,hs,hl⟩))
 case entry y =>
  unfold zl at h
  repeat' split at h
  all_goals first|exact h.elim|exact .inl h.2
 case lookup t y z ok =>
  unfold zf at h
  repeat' split at h
  all_goals first|exact h.elim|(obtain ⟨_,_,_,h⟩:=h;exact .inl h)
 case makeMap t r =>
  unfold DY at h
  repeat' split at h
  all_goals first|exact h.elim|exact .inr (.inl ⟨rfl,_,h.2⟩)
 case range t y =>
  unfold Ep at h
  repeat' split at h
  all_goals first|exact h.elim|exact .inr (.inl ⟨rfl,_,h.2⟩)
 case nilCheck y =>
  repeat' split at h
  all_goals first|exact h.elim|exact .inl h.2
 case binOp bo t y z t' =>
  unfold I4 at h
  repeat' split at h
  all_goals try exact h.elim
  all_goals try exact .inl h.2
  all_goals try exact .inl h.2.2
  ·unfold BH at h;split at h<;>first|exact h.elim|exact .inl h.2
  ·unfold xx at h;split at h<;>first|exact h.elim|exact .inl h.2|exact .inl h.2.2
 case unOp uo t y =>
  unfold JE at h
  repeat' split at h
  all_goals first|exact h.elim|exact .inl h.2
 case convert src dst y =>
  unfold IB at h
  repeat' split at h
  all_goals first|exact h.elim|exact .inl h.2
 case makeFunc fn fs cs=>exact .inl h.2
 case makeSlice t n m =>
  unfold Dv at h
  repeat' split at h
  all_goals first|exact h.elim|exact .inr (.inl ⟨rfl,_,h.2.2⟩)
 case slice t y lo hi mx =>
  unfold xA at h
  split at h<;>try exact h.elim
  split at h<;>try exact h.elim
  ·split at h<;>try exact h.elim
   split at h
   ·rename_i hc
    split at h<;>try exact h.elim
    have hm:mx.isSome=true:=by
     simp only [b9] at hc
     cases mx with
     | none=>simp [clip] at hc
     | some _=>rfl
    exact .inr (.inl ⟨by cases mx<;>simp at hm;rfl,_,h.2⟩)
   ·repeat' split at h
    all_goals first|exact h.elim|exact .inl h.2.2|exact .inl h.2|(obtain ⟨_,_,_,h⟩:=h;exact .inl h)
  ·repeat' split at h
   all_goals first|exact h.elim|exact .inl h.2.2
  ·repeat' split at h
   all_goals first|exact h.elim|(obtain ⟨_,_,_,h⟩:=h;exact .inl h)
 case fieldAddr t y j =>
  unfold Du at h
  repeat' split at h
  all_goals first|exact h.elim|exact .inl h.2
 case field t y j =>
  unfold HW at h
  repeat' split at h
  all_goals first|exact h.elim|exact .inl h.2
 case indexAddr t y z =>
  unfold wW at h
  repeat' split at h
  all_goals first|exact h.elim|exact .inl h.2|exact .inl h.2.2|(obtain ⟨_,_,_,h⟩:=h;exact .inl h)
 case index t y z =>
  unfold HU at h
  repeat' split at h
  all_goals first|exact h.elim|exact .inl h.2|exact .inl h.2.2|(obtain ⟨_,_,_,h⟩:=h;exact .inl h)
 case extract y j =>
  repeat' split at h
  all_goals first|exact h.elim|exact .inl h.2
 case call c =>
  split at h
  ·split at h<;>try exact h.elim
   unfold BT at h
   repeat' split at h
   all_goals first|exact h.elim|(obtain ⟨_,_,_,h⟩:=h;exact .inl h)
  ·rename_i bi hc
   obtain ⟨callee,args,argTypes⟩:=c
   simp only at hc h
   subst hc
   unfold xf at h
   split at h<;>try exact h.elim
   ·split at h<;>try exact h.elim
    unfold zL at h
    repeat' split at h
    all_goals first|exact h.elim|exact .inl h.2|(obtain ⟨_,_,_,h⟩:=h;exact .inl h)
   ·split at h<;>try exact h.elim
    split at h
    ·unfold vJ at h
     repeat' split at h
     all_goals try exact h.elim
     iterate 2
      rename_i hs _
      obtain ⟨_,_,_,h⟩:=h
      exact .inr (.inr (.inr ⟨rfl,rfl,_,_,_,h,_,hs,rfl⟩))
     all_goals
      obtain ⟨_,_,_,h⟩:=h
      exact .inr (.inl ⟨rfl,_,h⟩)
    ·unfold vF at h
     split at h<;>try exact h.elim
     ·repeat' split at h
      all_goals try exact h.elim
      obtain ⟨_,_,_,h⟩:=h
      exact .inr (.inl ⟨rfl,_,h⟩)
     split at h<;>try exact h.elim
     rename_i hs
     repeat' split at h
     all_goals try exact h.elim
     obtain ⟨_,_,_,h⟩:=h
     exact .inr (.inr (.inr ⟨rfl,rfl,_,_,_,h,_,hs,rfl⟩))
   ·split at h<;>try exact h.elim
    split at h<;>try exact h.elim
    unfold xG at h
    repeat' split at h
    all_goals try exact h.elim
    rename_i hs _
    obtain ⟨_,_,_,h⟩:=h
    exact .inr (.inr (.inl ⟨rfl,_,_,h,_,hs,rfl⟩))
   ·split at h<;>try exact h.elim
    unfold xz at h
    repeat' split at h
    all_goals try exact h.elim
    rename_i hs _
    obtain ⟨_,_,_,h⟩:=h
    exact .inr (.inr (.inl ⟨rfl,_,_,h,_,hs,rfl⟩))
   ·split at h<;>try exact h.elim
    all_goals
     (first|unfold CA at h|unfold B6 at h)
     repeat' split at h
     all_goals first|exact h.elim|exact .inl h.2
   ·split at h<;>try exact h.elim
    all_goals
     (first|unfold CA at h|unfold B6 at h)
     repeat' split at h
     all_goals first|exact h.elim|exact .inl h.2
   ·split at h<;>try exact h.elim
    unfold I5 at h
    repeat' split at h
    all_goals first|exact h.elim|exact .inl h.2
  ·exact h.elim
def kW (g:Option (Tmp × SV)) (t:List SV):List SV :=
 match g with
 | some (i,v)=>t.set i v
 | none=>t
def lD (d:Option Tmp) (x:SV) (t:List SV):List SV :=
 match d with
 | some i=>t.set i x
 | none=>t
theorem Mf (g:Option (Tmp × SV)) (t:List SV) (i:Nat) (h:∀j v,g=some (j,v)->j≠i):(kW g t)[i]?=t[i]?:=by
 unfold kW
 split
 ·rw [fS (h _ _ rfl)]
 ·rfl
theorem HE (d:Option Tmp) (x:SV) (t:List SV) (i:Nat) (h:∀j,d=some j->j≠i):(lD d x t)[i]?=t[i]?:=by
 unfold lD
 split
 ·rw [fS (h _ rfl)]
 ·rfl
def oe (X:Ctx) (ops:List Oper) (o:Oper) (l:Nat) (s:St) (g:Option (Tmp × SV)) (x:SV) (u:List (Nat × Slot)):Prop :=
 match tv ops o with
 | none=>g=none/\(dJ X s l o.op).out x u
 | some (none,_)=>False
 | some (some i,want)=>∃y v,s.t[i]?=some y/\ku y=some v/\g=some (i,v) /\
  match kC want v with
  | true=>(dJ X ⟨s.t.set i v,s.b⟩ l o.op).out x u
  | false=>x=.cd []/\u=[]
theorem zi {X:Ctx} {ops:List Oper} {o:Oper} {l:Nat} {s s':St} :
  Out X ops o l s s'↔∃g x u,oe X ops o l s g x u/\s'=⟨lD o.dst x (kW g s.t),kp s.b u⟩:=by
 unfold Out oe
 rcases hg:tv ops o with _|⟨_|i,want⟩
 ·constructor
  ·rintro ⟨x,u,h,rfl⟩;exact ⟨none,x,u,⟨rfl,h⟩,rfl⟩
  ·rintro ⟨g,x,u,⟨rfl,h⟩,rfl⟩;exact ⟨x,u,h,rfl⟩
 ·simp
 ·constructor
  ·rintro ⟨y,v,h1,h2,h3⟩
   cases hw:kC want v<;>rw [hw] at h3<;>simp only at h3
   ·exact ⟨some (i,v),.cd [],[],⟨y,v,h1,h2,rfl,by rw [hw];exact ⟨rfl,rfl⟩⟩,h3⟩
   ·obtain ⟨x,u,h4,h5⟩:=h3
    exact ⟨some (i,v),x,u,⟨y,v,h1,h2,rfl,by rw [hw];exact h4⟩,h5⟩
  ·rintro ⟨g,x,u,⟨y,v,h1,h2,rfl,h3⟩,h5⟩
   refine ⟨y,v,h1,h2,?_⟩
   cases hw:kC want v<;>rw [hw] at h3<;>simp only at h3 ⊢
   ·obtain ⟨rfl,rfl⟩:=h3;exact h5
   ·exact ⟨x,u,h3,h5⟩
theorem abh (g:Option (Tmp × SV)) (t:List SV):(kW g t).length=t.length:=by unfold kW;split<;>simp
theorem abi (g:Option Tmp) (x:SV) (t:List SV):(lD g x t).length=t.length:=by unfold lD;split<;>simp
theorem Sy {y v:SV} (h:ku y=some v):ku v=some v:=by
 unfold ku at h
 split at h<;>simp at h<;>subst h<;>rfl
theorem oe.guard {X:Ctx} {ops:List Oper} {o:Oper} {l:Nat} {s:St} {g:Option (Tmp × SV)} {x:SV} {u:List (Nat × Slot)} (h:oe X ops o l s g x u) :
  (gT ops o=none/\g=none)\/∃i y v,gT ops o=some i/\g=some (i,v)/\s.t[i]?=some y/\ku y=some v:=by
 unfold oe at h
 unfold gT
 split at h
 ·rename_i hg;rw [hg];exact .inl ⟨rfl,h.1⟩
 ·exact h.elim
 ·rename_i i want hg
  obtain ⟨y,v,h1,h2,h3,_⟩:=h
  rw [hg]
  exact .inr ⟨i,y,v,rfl,h3,h1,h2⟩
theorem oe.shape {X:Ctx} {ops:List Oper} {o:Oper} {l:Nat} {s:St} {g:Option (Tmp × SV)} {x:SV} {u:List (Nat × Slot)} (h:oe X ops o l s g x u) :
  Shape s.b l o.op u:=by
 unfold oe at h
 split at h
 ·exact Sx X s l o.op h.2
 ·exact h.elim
 ·rename_i i want hg
  obtain ⟨y,v,h1,h2,h3,h4⟩:=h
  split at h4
  ·exact Sx X ⟨s.t.set i v,s.b⟩ l o.op h4
  ·exact .inl h4.2
theorem Q3 {f:Fr} {s:St} {η:Nat->Value} {H:aZ} {a:Act} {w:World} (D:Den f s η H a w) (x:Operand) {l:Nat} (h:dZ (ev s x)=some l):aO s.b l≠.un:=by
 have hx:=D.ev x
 intro hq
 cases hs:ev s x<;>rw [hs] at h hx<;>simp [dZ] at h<;>subst h<;>simp only [rel,hq] at hx
theorem Um {f:Fr} {s:St} {η:Nat->Value} {H:aZ} {a:Act} {w:World} (D:Den f s η H a w) {l:Nat} (hu:s.b[l]?=some .un) (y:Slot) :
  ∀(n:Nat) (x:SV) (v:Value),rel η (aO s.b) H x v->gP (s.b.set l y) n x=gP s.b n x
 | 0,x,v,h=>rfl
 | n+1,x,v,h=>by
  have map:∀(cs:List SV) (vs:List Value),aL η (aO s.b) H cs vs->cs.map (gP (s.b.set l y) n)=cs.map (gP s.b n):=by
   intro cs
   induction cs with
   | nil=>intro vs h;rfl
   | cons c r ih =>
    intro vs h
    simp only [aL] at h
    obtain ⟨u,us,h1,h2,h3⟩:=h
    simp only [ig]
    rw [Um D hu y n c u h2,ih us h3]
  have hq:aO s.b l=.un:=by rw [bX hu];rfl
  cases x with
  | own k =>
   have hk:l≠k:=by
    rintro rfl
    simp only [rel,hq] at h
   simp only [gP,fS hk]
  | eA k sz m j =>
   have hk:l≠k:=by
    rintro rfl
    simp only [rel,hq] at h
   simp only [gP,fS hk]
  | ptr k off =>
   have hk:l≠k:=by
    rintro rfl
    simp only [rel,hq] at h
   simp only [gP,fS hk]
   split
   ·rename_i e cs hs
    simp only [rel,bX hs,Slot.live] at h
    obtain ⟨jB,vs,h3,h4,h5⟩:=D.sl k _ hs
    rw [map _ _ h5]
   ·rfl
  | fA k =>
   have hk:l≠k:=by
    rintro rfl
    simp only [rel,hq] at h
   simp only [gP,fS hk]
  | fn g cs ds =>
   simp only [gP]
   simp only [rel] at h
   obtain ⟨vs,us,h1,h2,h3⟩:=h
   rw [map _ _ h2,map _ _ h3]
  | agg cs =>
   simp only [gP]
   simp only [rel] at h
   obtain ⟨vs,h1,h2⟩:=h
   rw [map _ _ h2]
  | cd cs =>
   simp only [gP]
   simp only [rel] at h
   obtain ⟨vs,h1,h2⟩:=h
   rw [map _ _ h2]
  | _=>rfl
theorem Tt {f:Fr} {s:St} {η:Nat->Value} {H:aZ} {a:Act} {w:World} (D:Den f s η H a w) {l:Nat} (hu:s.b[l]?=some .un) (y:Slot) :
  ∀(cs:List SV) (vs:List Value),aL η (aO s.b) H cs vs->cs.map (view (s.b.set l y))=cs.map (view s.b)
 | [],vs,h=>rfl
 | c :: r,vs,h=>by
  simp only [aL] at h
  obtain ⟨u,us,h1,h2,h3⟩:=h
  simp only [ig,view]
  rw [Um D hu y 4 c u h2]
  exact congrArg _ (Tt D hu y r us h3)
theorem ace (X:Ctx) {f:Fr} {t:List SV} {b:List Slot} (G:Good f ⟨t,b⟩) {l':Nat} {y:Slot} (jq:b[l']?=some .un) (op:Op) (hd:deep op=true) (l:Nat) :
  dJ X ⟨t,b⟩ l op=dJ X ⟨t,b.set l' y⟩ l op:=by
 cases op<;>try (cases hd;done)
 case call c =>
  have e:∀x,ev ⟨t,b.set l' y⟩ x=ev ⟨t,b⟩ x:=λx=>by cases x<;>rfl
  obtain ⟨η,H,a,w,D⟩:=G
  simp only [dJ]
  cases hc:c.callee with
  | invoke r m=>rfl
  | builtin bi=>simp [deep,hc] at hd
  | value g =>
   have hg:=D.ev g
   have hm:c.args.toList.map (ev ⟨t,b.set l' y⟩)=c.args.toList.map (ev ⟨t,b⟩):=rI λx _=>e x
   simp only [hm,e]
   split
   ·rename_i fid first cap hv
    rw [hv] at hg
    simp only [rel] at hg
    obtain ⟨fs,cs,_,h1,h2⟩:=hg
    have ha:aL η (aO b) H (c.args.toList.map (ev ⟨t,b⟩)) (c.args.toList.map a.eval):=by
     generalize c.args.toList=xs
     induction xs with
     | nil=>simp [aL]
     | cons x r ih=>simp only [ig,aL];exact ⟨_,_,rfl,D.ev x,ih⟩
    simp only [BT]
    rw [Tt D jq y _ _ (gV (gV h1 ha) h2)]
   ·rfl
theorem Sz (X:Ctx) {f:Fr} {t t':List SV} {b:List Slot} (G:Good f ⟨t,b⟩) {o:Oper} {l l':Nat} {Fw:Op} {u':List (Nat × Slot)} (x9:Shape b l' Fw u')
  (jq:fq Fw=true->b[l']?=some .un) (hw:mJ Fw=true->qX o.op=false\/∃ys,fO o.op=some ys/\∀y∈ys,∀q∈u',fZ ⟨t,b⟩ y≠some q.1)
  (ht:∀i∈jx o.op,t[i]?=t'[i]?):dJ X ⟨t,b⟩ l o.op=dJ X ⟨t',kp b u'⟩ l o.op:=by
 rw [<-Q1 X (s:=⟨t,kp b u'⟩) (s':=⟨t',kp b u'⟩) l o.op ht rfl]
 rcases x9 with rfl|⟨oR,y,rfl⟩|⟨Ao,l0,y,rfl,_⟩|⟨Ao,_,l0,y,z,rfl,_⟩
 ·rfl
 ·by_cases hr:qX o.op=false
  ·exact MB X t b _ l o.op hr
  ·cases hd:deep o.op with
   | true=>exact ace X G (jq oR) o.op hd l
   | false =>
    refine aes X t b _ l o.op hd ?_
    intro x _ k hk
    obtain ⟨η,H,a,w,D⟩:=G
    have bR:=Q3 D x hk
    have:l'≠k:=by
     rintro rfl
     exact bR (by rw [bX (jq oR)];rfl)
    simp only [kp]
    rw [fS this]
 ·rcases hw Ao with h|⟨z,h1,h2⟩
  ·exact MB X t b _ l o.op h
  ·refine Ul X t b _ l o.op h1 λe he k hk=>?_
   simp only [kp]
   rw [fS (by rintro rfl;exact h2 e he (_,y) (by simp) hk)]
 ·rcases hw Ao with h|⟨z',h1,h2⟩
  ·exact MB X t b _ l o.op h
  ·refine Ul X t b _ l o.op h1 λe he k hk=>?_
   simp only [kp]
   rw [fS (by rintro rfl;exact h2 e he (_,z) (by simp) hk),fS (by rintro rfl;exact h2 e he (_,y) (by simp) hk)]
theorem adf {y v:SV} (h:ku y=some v):dZ y=dZ v:=by
 unfold ku at h
 split at h<;>simp at h<;>subst h<;>rfl
theorem Dw {s:St} {i:Nat} {y v:SV} (h1:s.t[i]?=some y) (h2:ku y=some v) (b:List Slot) (t:Tmp):fZ ⟨s.t.set i v,b⟩ t=fZ s t:=by
 unfold fZ
 simp only
 rw [jP]
 split
 ·rename_i e;subst e
  rw [if_pos (bf.1 h1).1,h1]
  simp [adf h2]
 ·rfl
theorem SA {t:List SV} {b b':List Slot} {d:Option Tmp} {x:SV} {i:Tmp} (h:∀j,d=some j->j≠i):fZ ⟨lD d x t,b⟩ i=fZ ⟨t,b'⟩ i:=by
 unfold fZ;simp only;rw [HE _ _ _ _ h]
section
variable {P:Program} {X:Ctx} {f:Fr} {s:St}
theorem Good.guard {y v:SV} {i:Nat} (G:Good f s) (h1:s.t[i]?=some y) (h2:ku y=some v):Good f ⟨s.t.set i v,s.b⟩:=by
 obtain ⟨η,H,a,w,D⟩:=G
 exact ⟨η,H,a,w,(D.guard h1 h2).1⟩
theorem oe.gK {X:Ctx} {ops:List Oper} {o:Oper} {l:Nat} {s:St} {g:Option (Tmp × SV)} {x:SV} {u:List (Nat × Slot)} (h:oe X ops o l s g x u) {t:Tmp} (hm:iY o.op=some t) :
  ∀q∈u,fZ s t=some q.1\/(fq o.op=true/\q.1=l):=by
 unfold oe at h
 split at h
 ·exact Sw X s l o.op h.2 hm
 ·exact h.elim
 ·obtain ⟨y,v,h1,h2,h3,h4⟩:=h
  split at h4
  ·intro q hq
   have:=Sw X _ l o.op h4 hm q hq
   rwa [Dw h1 h2] at this
  ·obtain ⟨_,rfl⟩:=h4
   simp
theorem SB (G:Good f s) {ops:List Oper} {o o':Oper} {l l':Nat} (ap:vM ops o' o) (fx:Sep o' o s) (jq:fq o'.op=true->s.b[l']?=some .un)
  {g':Option (Tmp × SV)} {x':SV} {u':List (Nat × Slot)} (h':oe X ops o' l' s g' x' u') (g:Option (Tmp × SV)) (x:SV) (u:List (Nat × Slot)) :
  oe X ops o l s g x u↔oe X ops o l ⟨lD o'.dst x' (kW g' s.t),kp s.b u'⟩ g x u:=by
 have x9:=h'.shape
 have kI:=h'.guard
 have zO:=λt hm=>h'.gK (t:=t) hm
 have hw:mJ o'.op=true->qX o.op=false\/∃ys,fO o.op=some ys/\∀y∈ys,∀q∈u',fZ s y≠some q.1:=by
  intro Ao
  rcases fx Ao with h|⟨x,ys,h0,h3,h⟩
  ·exact .inl h
  ·refine .inr ⟨ys,h3,λy hy q hq=>?_⟩
   rcases zO x h0 q hq with h1|⟨h1,h2⟩
   ·exact h _ h1 y hy
   ·obtain ⟨η,H,a,w,D⟩:=G
    intro hk
    refine Q3 D (.tmp y) (show dZ (ev s (.tmp y))=some l' by rw [<-h2];exact hk) ?_
    rw [bX (jq h1)];rfl
 have ht:∀i∈jx o.op,(lD o'.dst x' (kW g' s.t))[i]?=s.t[i]?:=by
  intro i hi
  rw [HE _ _ _ _ (λj hj e=>ap.d1 j hj (e ▸ hi)),Mf]
  intro j v hv e
  subst e
  rcases kI with ⟨_,h⟩|⟨j',y,v',h1,h2,_⟩
  ·rw [h] at hv;cases hv
  ·rw [h2] at hv
   simp at hv
   exact ap.g1 j' h1 (hv.1 ▸ hi)
 unfold oe
 split
 ·rw [Sz X (t:=s.t) (b:=s.b) (l:=l) G x9 jq hw (λi hi=>(ht i hi).symm)]
 ·exact vz
 ·rename_i i want hg
  have pv:gT ops o=some i:=by simp [gT,hg]
  have hd:∀j,o'.dst=some j->j≠i:=λj hj e=>ap.d2 j hj (e ▸ pv)
  have hi:(lD o'.dst x' (kW g' s.t))[i]?=(kW g' s.t)[i]?:=HE _ _ _ _ hd
  have key:∀v,(∃y,s.t[i]?=some y/\ku y=some v)↔(∃y,(lD o'.dst x' (kW g' s.t))[i]?=some y/\ku y=some v):=by
   intro v
   rw [hi]
   by_cases kH:∃v',g'=some (i,v')
   ·obtain ⟨v',e⟩:=kH
    rcases kI with ⟨_,h⟩|⟨j,y,v2,h1,h2,h3,h4⟩
    ·rw [h] at e;cases e
    ·rw [h2] at e
     simp at e
     obtain ⟨rfl,rfl⟩:=e
     rw [h2]
     have aP:=(bf.1 h3).1
     simp only [kW,nL aP]
     constructor
     ·rintro ⟨y',e1,e2⟩
      rw [h3] at e1;simp at e1;subst e1
      rw [h4] at e2;simp at e2;subst e2
      exact ⟨_,rfl,Sy h4⟩
     ·rintro ⟨y',e1,e2⟩
      simp at e1;subst e1
      rw [Sy h4] at e2;simp at e2;subst e2
      exact ⟨y,h3,h4⟩
   ·rw [Mf]
    intro j v' hv e
    subst e
    exact kH ⟨v',hv⟩
  have B7:∀v,(∃y,s.t[i]?=some y/\ku y=some v)->dJ X ⟨s.t.set i v,s.b⟩ l o.op=dJ X ⟨(lD o'.dst x' (kW g' s.t)).set i v,kp s.b u'⟩ l o.op:=by
   rintro v ⟨y,h1,h2⟩
   refine Sz X (t:=s.t.set i v) (b:=s.b) (l:=l) (G.guard h1 h2) x9 jq (λAo=>(hw Ao).imp id λ⟨Yu,a1,a2⟩=>⟨Yu,a1,λy' qf q hq=>by rw [Dw h1 h2];exact a2 y' qf q hq⟩) (λk hk=>?_)
   by_cases O4:i=k
   ·subst O4
    have aP:=(bf.1 h1).1
    rw [nL aP,nL (by rw [abi,abh];exact aP)]
   ·rw [fS O4,fS O4,ht k hk]
  constructor
  ·rintro ⟨y,v,h1,h2,h3,h4⟩
   obtain ⟨y',e1,e2⟩:=(key v).1 ⟨y,h1,h2⟩
   refine ⟨y',v,e1,e2,h3,?_⟩
   rw [<-B7 v ⟨y,h1,h2⟩]
   exact h4
  ·rintro ⟨y',v,e1,e2,h3,h4⟩
   obtain ⟨y,h1,h2⟩:=(key v).2 ⟨y',e1,e2⟩
   refine ⟨y,v,h1,h2,h3,?_⟩
   rw [B7 v ⟨y,h1,h2⟩]
   exact h4
theorem Q4 (l:Nat) (x:Slot):∀(u:List (Nat × Slot)) (b:List Slot),(∀p∈u,p.1≠l)->kp (b.set l x) u=(kp b u).set l x
 | [],b,_=>rfl
 | (k,y) :: u,b,h=>by
  simp only [kp]
  rw [LI _ _ (h (k,y) (by simp)).symm]
  exact Q4 l x u _ λp hp=>h p (by simp [hp])
theorem QS:∀(u v:List (Nat × Slot)) (b:List Slot),(∀p∈u,∀q∈v,p.1≠q.1)->kp (kp b u) v=kp (kp b v) u
 | [],v,b,_=>rfl
 | (l,x) :: u,v,b,h=>by
  simp only [kp]
  rw [QS u v _ λp hp q hq=>h p (by simp [hp]) q hq]
  rw [Q4 l x v b λq hq=>(h (l,x) (by simp) q hq).symm]
theorem LS (t:List SV) (i j:Nat) (x y:SV) (h:i≠j):(t.set i x).set j y=(t.set j y).set i x:=LI _ _ h
theorem swap (G:Good f s) {ops:List Oper} {p j:Oper} {lp lj:Nat} (ap:vM ops p j) (sp:Sep p j s) (sj:Sep j p s) (O5:fq p.op=true->s.b[lp]?=some .un) (O6:fq j.op=true->s.b[lj]?=some .un)
  (bR:fq p.op=true->fq j.op=true->lp≠lj) {s1 s2:St} (h1:Out X ops p lp s s1) (h2:Out X ops j lj s1 s2):∃CH,Out X ops j lj s CH/\Out X ops p lp CH s2:=by
 rw [zi] at h1 h2
 obtain ⟨gp,xp,up,hp,rfl⟩:=h1
 obtain ⟨gj,xj,uj,hj,rfl⟩:=h2
 have Ap:=(SB G ap sp O5 hp gj xj uj).2 hj
 have oQ:=(SB G ap.symm sj O6 Ap gp xp up).1 hp
 refine ⟨_,zi.2 ⟨gj,xj,uj,Ap,rfl⟩,zi.2 ⟨gp,xp,up,oQ,?_⟩⟩
 congr 1
 ·
  simp only
  have tI:=hp.guard
  have FJ:=Ap.guard
  have c1:∀(d:Option Tmp) (x:SV) (g:Option (Tmp × SV)) (t:List SV),(∀i k v,d=some i->g=some (k,v)->i≠k)->kW g (lD d x t)=lD d x (kW g t):=by
   intro d x g t h
   unfold kW lD
   cases d<;>cases g<;>try rfl
   rename_i i kv
   obtain ⟨k,v⟩:=kv
   exact LS _ _ _ _ _ (h i k v rfl rfl)
  have c2:∀(d e:Option Tmp) (x y:SV) (t:List SV),(∀i k,d=some i->e=some k->i≠k)->lD e y (lD d x t)=lD d x (lD e y t):=by
   intro d e x y t h
   unfold lD
   cases d<;>cases e<;>try rfl
   rename_i i k
   exact LS _ _ _ _ _ (h i k rfl rfl)
  have c3:kW gj (kW gp s.t)=kW gp (kW gj s.t):=by
   rcases tI with ⟨_,rfl⟩|⟨i,y,v,a1,rfl,a3,a4⟩
   ·rfl
   rcases FJ with ⟨_,rfl⟩|⟨k,y',v',b1,rfl,b3,b4⟩
   ·rfl
   by_cases e:i=k
   ·subst e
    rw [a3] at b3;simp at b3;subst b3
    rw [a4] at b4;simp at b4;subst b4
    rfl
   ·exact LS _ _ _ _ _ e
  rw [c1 p.dst xp gj _ (by
   rintro i k v hd hg rfl
   rcases FJ with ⟨_,h⟩|⟨k,y',v',b1,h,_⟩
   ·rw [h] at hg;cases hg
   ·rw [h] at hg;simp at hg;exact ap.d2 i hd (by rw [b1,hg.1]))]
  rw [c2 p.dst j.dst xp xj _ (by rintro i k hd he rfl;exact ap.d3 i hd he)]
  rw [c1 j.dst xj gp _ (by
   rintro i k v hd hg rfl
   rcases tI with ⟨_,h⟩|⟨k,y',v',b1,h,_⟩
   ·rw [h] at hg;cases hg
   ·rw [h] at hg;simp at hg;exact ap.e2 i hd (by rw [b1,hg.1]))]
  rw [c3]
 ·
  refine QS up uj s.b ?_
  have fx:=hp.shape
  have hsj:=Ap.shape
  have ez:∀{b:List Slot} {l:Nat} {op:Op} {u:List (Nat × Slot)},Shape b l op u->∀q∈u,(q.1=l/\fq op=true)\/(mJ op=true/\MV b q.1):=by
   rintro b l op u (rfl|⟨h,y,rfl⟩|⟨h,l0,y,rfl,h2⟩|⟨h,h3,l0,y,z,rfl,h2⟩) q hq
   ·simp at hq
   ·simp at hq;subst hq;exact .inl ⟨rfl,h⟩
   ·simp at hq;subst hq;exact .inr ⟨h,h2⟩
   ·simp at hq
    rcases hq with rfl|rfl
    ·exact .inr ⟨h,h2⟩
    ·exact .inl ⟨rfl,h3⟩
  intro q hq r hr e
  rcases ez fx q hq with ⟨e1,a1⟩|⟨w1,z1,l1,Yv⟩<;>rcases ez hsj r hr with ⟨e2,a2⟩|⟨w2,z2,l2,Yw⟩
  ·exact bR a1 a2 (by rw [<-e1,<-e2,e])
  ·rw [<-e,e1,O5 a1] at l2
   simp at l2;subst l2;cases Yw
  ·rw [e,e2,O6 a2] at l1
   simp at l1;subst l1;cases Yv
  ·have rd:∀{o:Oper},mJ o.op=true->qX o.op=true:=by
    intro o w
    cases hjj:o.op<;>rw [hjj] at w<;>simp [mJ,Tl] at w<;>rfl
   rcases sp w1 with h|⟨x,ys,h,oP,aia⟩
   ·rw [rd w2] at h;cases h
   rcases sj w2 with h'|⟨x',Yu,h',aq8,_⟩
   ·rw [rd w1] at h';cases h'
   have live:∀{o:Oper} {l k:Nat},(fq o.op=true->s.b[l]?=some .un)->fq o.op=true/\k=l->s.b[k]?=some z1\/s.b[k]?=some z2->False:=by
    rintro o l k hu ⟨ha,rfl⟩ (h|h)
    ·rw [hu ha] at h;simp at h;subst h;cases Yv
    ·rw [hu ha] at h;simp at h;subst h;cases Yw
   rcases hp.gK h q hq with a1|a1
   ·rcases Ap.gK h' r hr with a2|a2
    ·exact aia _ a1 x' (Tm h' oP) (by rw [a2,e])
    ·exact live O6 a2 (.inr l2)
   ·exact live O5 a1 (.inl l1)
theorem RJ {o:Oper} {l:Nat} {x:SV} {u:List (Nat × Slot)} (h:(dJ X s l o.op).out x u) (hn:newVar o.op=true) (hR:∀f S,X.sp f=some S->∀a,LF (S.res a)):∀k,dZ x=some k->fq o.op=true/\k=l:=by
 cases ho:o.op<;>rw [ho] at hn h<;>try (cases hn;done)
 case call c =>
  obtain ⟨callee,args,argTypes⟩:=c
  cases callee with
  | value g =>
   simp only [dJ] at h
   split at h<;>try exact h.elim
   unfold BT at h
   split at h<;>try exact h.elim
   rename_i S hS
   intro k hk
   exfalso
   have:∃a,x=S.res a:=by
    split at h
    ·obtain ⟨a,_,h1,_⟩:=h;exact ⟨a,h1⟩
    ·obtain ⟨a,_,h1,_⟩:=h;exact ⟨a,h1⟩
   obtain ⟨a,rfl⟩:=this
   have h1:=hR _ _ hS a
   cases hq:S.res a<;>rw [hq] at h1 hk<;>simp [LF,dZ] at h1 hk
  | invoke r m=>cases hn
  | builtin bi =>
   cases bi<;>try (cases hn;done)
   simp only [dJ,xf] at h
   split at h<;>try exact h.elim
   split at h
   all_goals
    first|unfold vJ at h|unfold vF at h
    repeat' split at h
    all_goals try exact h.elim
    all_goals
     obtain ⟨_,_,rfl,_⟩:=h
     intro k hk
     exact ⟨rfl,by simpa [dZ] using hk.symm⟩
 case buildSlice t n ps =>
  simp only [dJ] at h
  unfold Ds at h
  repeat' split at h
  all_goals try exact h.elim
  all_goals
   intro k hk
   first|obtain ⟨rfl,_⟩:=h|obtain ⟨_,_,rfl,_⟩:=h
   first|(cases hk;done)|exact ⟨rfl,by simpa [dZ] using hk.symm⟩
 case makeSlice t n m =>
  simp only [dJ] at h
  unfold Dv at h
  repeat' split at h
  all_goals try exact h.elim
  all_goals
   intro k hk
   obtain ⟨_,rfl,_⟩:=h
   exact ⟨rfl,by simpa [dZ] using hk.symm⟩
 case makeMap t r =>
  simp only [dJ] at h
  unfold DY at h
  repeat' split at h
  all_goals try exact h.elim
  all_goals
   intro k hk
   obtain ⟨rfl,_⟩:=h
   exact ⟨rfl,by simpa [dZ] using hk.symm⟩
 case range t y =>
  simp only [dJ] at h
  unfold Ep at h
  repeat' split at h
  all_goals try exact h.elim
  all_goals
   intro k hk
   obtain ⟨rfl,_⟩:=h
   exact ⟨rfl,by simpa [dZ] using hk.symm⟩
 all_goals
  simp only [dJ] at h
  split at h<;>try exact h.elim
  intro k hk
  obtain ⟨rfl,_⟩:=h
  exact ⟨rfl,by simpa [dZ] using hk.symm⟩
theorem nY.out {ops:List Oper} {o:Oper} {l:Nat} {s1:St} {Ks:Tmp->List Nat} (FA:nY ops Ks s) (mo:o∈ops) (hl:rW ops Ks o l) (hR:∀f S,X.sp f=some S->∀a,LF (S.res a)) (h:Out X ops o l s s1):nY ops Ks s1:=by
 rw [zi] at h
 obtain ⟨g,x,u,hr,rfl⟩:=h
 refine ⟨λt A ht k hk=>?_,FA.cl,FA.JN⟩
 have B8:(∀j,o.dst=some j->j≠t)->k∈Ks t:=by
  intro hd
  rw [SA (b':=s.b) hd] at hk
  rcases hr.guard with ⟨_,rfl⟩|⟨i,y,v,_,rfl,h3,h4⟩
  ·exact FA.gK t A ht k hk
  ·rw [show fZ ⟨kW (some (i,v)) s.t,s.b⟩ t=fZ s t from Dw h3 h4 s.b t] at hk
   exact FA.gK t A ht k hk
 by_cases hd:o.dst=some t
 ·have hx:dZ x=some k:=by
   unfold fZ at hk
   simp only [hd,lD] at hk
   by_cases aP:t < (kW g s.t).length
   ·rw [nL aP] at hk;exact hk
   ·rw [oD (by rw [y8];exact Nat.le_of_not_lt aP)] at hk;cases hk
  cases hn:newVar o.op with
  | true =>
   have dO:fq o.op=true/\k=l:=by
    unfold oe at hr
    split at hr
    ·exact RJ hr.2 hn hR k hx
    ·exact hr.elim
    ·obtain ⟨y,v,h1,h2,h3,h4⟩:=hr
     split at h4
     ·exact RJ h4 hn hR k hx
     ·rw [h4.1] at hx;cases hx
   rw [dO.2];exact hl t A hd hn dO.1 ht
  | false =>
   rcases Eb hd mo (show pX (j7 ops 7) t ops=some A from ht) with h|⟨z,B,h1,h2,h3⟩
   ·rw [h] at hn;cases hn
   obtain ⟨⟨B',hB'⟩,EX⟩:=FA.cl o mo t z A hd hn h1 ht
   refine EX k (FA.gK z B' hB' k ?_)
   unfold oe at hr
   split at hr
   ·exact Ts X s l o.op hr.2 h1 k hx
   ·exact hr.elim
   ·obtain ⟨y,v,g1,g2,g3,g4⟩:=hr
    split at g4
    ·have:=Ts X _ l o.op g4 h1 k hx
     rwa [Dw g1 g2] at this
    ·rw [g4.1] at hx;cases hx
 ·exact B8 λj hj e=>hd (by rw [hj,e])
theorem afu {ops:List Oper} {o:Oper} {l k:Nat} {s1:St} (h:Out X ops o l s s1) (hk:s.b[k]?=some .un) (bR:fq o.op=true->l≠k):s1.b[k]?=some .un:=by
 rw [zi] at h
 obtain ⟨g,x,u,hr,rfl⟩:=h
 simp only
 rcases hr.shape with rfl|⟨h,y,rfl⟩|⟨h,l0,y,rfl,z,h2,O7⟩|⟨h,h3,l0,y,z,rfl,z',h2,O7⟩
 ·exact hk
 ·simp only [kp];rw [fS (bR h)];exact hk
 ·simp only [kp]
  rw [fS (by rintro rfl;rw [hk] at h2;simp at h2;subst h2;cases O7)];exact hk
 ·simp only [kp]
  rw [fS (bR h3),fS (by rintro rfl;rw [hk] at h2;simp at h2;subst h2;cases O7)];exact hk
end
end Go.Vc
