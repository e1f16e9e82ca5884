import Derived.Test.YthnhbemmlfaihaaC5
set_option linter.unusedVariables false
set_option linter.unusedSimpArgs false
set_option maxRecDepth 10000
set_option maxHeartbeats 64000000
namespace Go.Vc
open Go
def jx (op:Op):List Tmp:=op.operands.toList.filterMap λ|.tmp t=>some t|_=>none
def gT (ops:List Oper) (o:Oper):Option Tmp:=(tv ops o).bind (·.1)
def qT:Op->Bool
 | .load ..|.store ..|.indexAddr ..|.slice ..|.call _|.lookup ..|.mapUpdate ..|.insert ..|.entry _=>true
 | _=>false
def Td:Op->Bool
 | .call c=>match c.callee with
  | .builtin .append=>true
  | .builtin .copy=>true
  | .builtin .clear=>true
  | _=>false
 | _=>false
def mF:Op->Bool
 | .store ..|.mapUpdate ..|.insert ..=>true
 | op=>Td op
def deep:Op->Bool
 | .call c=>match c.callee with
  | .value _=>true
  | _=>false
 | _=>false
def tmpsOf (xs:List Operand):List Tmp:=xs.filterMap λ|.tmp t=>some t|_=>none
def xq:List Operand->Option Tmp
 | .tmp t :: _=>some t
 | _=>none
def iY:Op->Option Tmp
 | .store _ x _=>match x with|.tmp t=>some t|_=>none
 | .mapUpdate _ x _ _=>match x with|.tmp t=>some t|_=>none
 | .insert _ x _ _=>match x with|.tmp t=>some t|_=>none
 | .call c=>match c.callee with
  | .builtin .append=>xq c.args.toList
  | .builtin .copy=>xq c.args.toList
  | .builtin .clear=>xq c.args.toList
  | _=>none
 | _=>none
def fK:Op->Option (List Tmp)
 | .load _ x=>match x with|.tmp t=>some [t]|_=>none
 | .store _ x _=>match x with|.tmp t=>some [t]|_=>none
 | .lookup _ x _ _=>match x with|.tmp t=>some [t]|_=>none
 | .entry x=>match x with|.tmp t=>some [t]|_=>none
 | .mapUpdate _ x _ _=>match x with|.tmp t=>some [t]|_=>none
 | .insert _ x _ _=>match x with|.tmp t=>some [t]|_=>none
 | .indexAddr _ x _=>match x with|.tmp t=>some [t]|_=>none
 | .slice _ x _ _ mx=>match x,mx with|.tmp t,none=>some [t]|_,_=>none
 | .call c=>match c.callee with
  | .builtin _=>some (tmpsOf c.args.toList)
  | _=>none
 | _=>none
theorem aa3 {xs:List Operand} {t:Tmp} (h:xq xs=some t):t∈tmpsOf xs:=by
 unfold xq at h
 split at h
 ·simp at h;subst h;simp [tmpsOf]
 ·cases h
theorem Te {op:Op} {t:Tmp} {ys:List Tmp} (h:iY op=some t) (h':fK op=some ys):t∈ys:=by
 cases op<;>try (cases h;done)
 case store ty x z=>cases x<;>simp [iY] at h;subst h;simp [fK] at h';subst h';simp
 case mapUpdate ty x y z=>cases x<;>simp [iY] at h;subst h;simp [fK] at h';subst h';simp
 case insert ty x y z=>cases x<;>simp [iY] at h;subst h;simp [fK] at h';subst h';simp
 case call c =>
  cases hc:c.callee with
  | value g=>simp [iY,hc] at h
  | invoke r m=>simp [iY,hc] at h
  | builtin b =>
   simp only [fK,hc,pL] at h'
   subst h'
   cases b<;>simp [iY,hc] at h<;>exact aa3 h
def newVar:Op->Bool
 | .alloc _|.box ..|.buildSlice ..|.makeSlice ..|.makeMap ..|.range ..=>true
 | .call c=>match c.callee with
  | .builtin .append=>true
  | .value _=>true
  | _=>false
 | _=>false
def tw:Op->Option Tmp
 | .fieldAddr _ x _=>match x with|.tmp t=>some t|_=>none
 | .indexAddr _ x _=>match x with|.tmp t=>some t|_=>none
 | .nilCheck x=>match x with|.tmp t=>some t|_=>none
 | .move x=>match x with|.tmp t=>some t|_=>none
 | .assign x=>match x with|.tmp t=>some t|_=>none
 | .slice _ x _ _ mx=>match x,mx with|.tmp t,none=>some t|_,_=>none
 | _=>none
def En (o:Oper) (t:Tmp):Bool:=match o.dst with|some d=>Nat.beq d t|none=>false
theorem LH {o:Oper} {t:Tmp}:En o t=true↔o.dst=some t:=by
 unfold En
 cases o.dst with
 | none=>simp
 | some d=>simp only [pL];exact ⟨lP,λh=>h ▸ LB d⟩
def pV (
     r:Tmp->Option (List Tmp)) (t:Tmp):List Oper->Option (List Tmp)
 | []=>some [t]
 | o :: os=>match En o t with
  | false=>pV r t os
  | true=>match newVar o.op with
   | true=>pV r t os
   | false=>match tw o.op with
    | none=>none
    | some x=>match r x,pV r t os with
     | some a,some b=>some (a++b)
     | _,_=>none
def j2 (ops:List Oper):Nat->Tmp->Option (List Tmp)
 | 0,_=>none
 | n+1,t=>pV (j2 ops n) t ops
theorem Hj {r r':Tmp->Option (List Tmp)} (h:∀x a,r x=some a->r' x=some a) {t:Tmp}:∀{os:List Oper} {A:List Tmp},pV r t os=some A->pV r' t os=some A
 | [],A,e=>e
 | o :: os,A,e=>by
  unfold pV at e ⊢
  split at e
  ·exact Hj h e
  ·split at e
   ·exact Hj h e
   ·split at e
    ·cases e
    ·split at e
     ·rename_i a b h1 h2
      simp only [h _ _ h1,Hj h h2]
      exact e
     ·cases e
theorem Tf {ops:List Oper}:∀{n:Nat} {t:Tmp} {A:List Tmp},j2 ops n t=some A->j2 ops (n+1) t=some A
 | 0,t,A,h=>by cases h
 | n+1,t,A,h=>Hj (λ_ _=>Tf) h
theorem Hk {r:Tmp->Option (List Tmp)} {t:Tmp}:∀{os:List Oper} {A:List Tmp},pV r t os=some A->t∈A
 | [],A,e=>by cases e;simp
 | o :: os,A,e=>by
  unfold pV at e
  split at e
  ·exact Hk e
  ·split at e
   ·exact Hk e
   ·split at e
    ·cases e
    ·split at e
     ·rename_i a b h1 h2
      cases e
      exact xd _ (Hk h2)
     ·cases e
theorem DS {r:Tmp->Option (List Tmp)} {t:Tmp} {o:Oper} (hd:o.dst=some t):∀{os:List Oper} {A:List Tmp},o∈os->pV r t os=some A ->
  newVar o.op=true\/∃x B,tw o.op=some x/\r x=some B/\∀y∈B,y∈A
 | [],A,h,_=>by cases h
 | o' :: os,A,h,e=>by
  unfold pV at e
  split at e
  ·rename_i h1
   rcases cj.1 h with rfl|h
   ·rw [LH.2 hd] at h1;cases h1
   ·exact DS hd h e
  ·split at e
   ·rename_i h1 h2
    rcases cj.1 h with rfl|h
    ·exact .inl h2
    ·exact DS hd h e
   ·split at e
    ·cases e
    ·rename_i x h3
     split at e
     ·rename_i a b h4 h5
      cases e
      rcases cj.1 h with rfl|h
      ·exact .inr ⟨x,a,h3,h4,λy hy=>uf _ hy⟩
      ·rcases DS hd h h5 with h6|⟨x,B,h6,h7,h8⟩
       ·exact .inl h6
       ·exact .inr ⟨x,B,h6,h7,λy hy=>xd _ (h8 y hy)⟩
     ·cases e
def tx:List Nat->List Nat->Bool
 | [],_=>true
 | a :: r,l=>(l.all λb=>!Nat.beq a b)&&tx r l
theorem T9:∀{x y:List Nat},tx x y=true->∀l∈x,l∉y
 | [],_,_,l,hl=>by cases hl
 | a :: r,y,h,l,hl=>by
  simp only [tx,cf] at h
  rcases cj.1 hl with rfl|hl
  ·intro hy
   have:=gK.1 h.1 l hy
   simp at this
  ·exact T9 h.2 l hl
def zj (ops:List Oper) (A:List Tmp):List Tmp->Bool
 | []=>true
 | y :: r=>(match j2 ops 8 y with
  | some B=>tx A B
  | none=>false)&&zj ops A r
def Jt (ops:List Oper) (p j:Oper):Bool :=
 match iY p.op,fK j.op with
 | some x,some ys=>match j2 ops 8 x with
  | some A=>zj ops A ys
  | none=>false
 | _,_=>false
structure Cs (ops:List Oper) (p j:Oper) (x:Tmp) (ys:List Tmp):Prop where
 p:iY p.op=some x
 j:fK j.op=some ys
 ax:∃A,j2 ops 8 x=some A
 d:∀A,j2 ops 8 x=some A->∀y∈ys,∃B,j2 ops 8 y=some B/\tx A B=true
theorem Sl {ops:List Oper} {A:List Tmp}:∀{ys:List Tmp},zj ops A ys=true->∀y∈ys,∃B,j2 ops 8 y=some B/\tx A B=true
 | [],_,y,hy=>by cases hy
 | z :: r,h,y,hy=>by
  simp only [zj,cf] at h
  rcases cj.1 hy with rfl|hy
  ·have h1:=h.1
   split at h1
   ·rename_i B hB;exact ⟨B,hB,h1⟩
   ·cases h1
  ·exact Sl h.2 y hy
theorem Tg {ops:List Oper} {p j:Oper} (h:Jt ops p j=true):∃x ys,Cs ops p j x ys:=by
 unfold Jt at h
 split at h
 ·rename_i x ys h1 h2
  split at h
  ·rename_i A h3
   exact ⟨x,ys,h1,h2,⟨A,h3⟩,λA' e1=>by rw [h3] at e1;cases e1;exact Sl h⟩
  ·cases h
 ·cases h
def HM (ops:List Oper) (p j:Oper):Bool :=
 (match p.dst with|some d=>!(jx j.op).contains d&&gT ops j != some d&&j.dst != some d|none=>true) &&
 (match j.dst with|some d=>!(jx p.op).contains d&&gT ops p != some d|none=>true) &&
 (match gT ops p with|some g=>!(jx j.op).contains g|none=>true) &&
 (match gT ops j with|some g=>!(jx p.op).contains g|none=>true)
def indep (ops:List Oper) (p j:Oper):Bool :=
 HM ops p j&&((!(mF p.op&&qT j.op)||Jt ops p j)&&(!(mF j.op&&qT p.op)||Jt ops j p))
structure vH (ops:List Oper) (p j:Oper):Prop where
 d1:∀d,p.dst=some d->d∉jx j.op
 d2:∀d,p.dst=some d->gT ops j≠some d
 d3:∀d,p.dst=some d->j.dst≠some d
 e1:∀d,j.dst=some d->d∉jx p.op
 e2:∀d,j.dst=some d->gT ops p≠some d
 g1:∀g,gT ops p=some g->g∉jx j.op
 g2:∀g,gT ops j=some g->g∉jx p.op
structure tj (ops:List Oper) (p j:Oper):Prop where
 t:vH ops p j
 w1:mF p.op=true->qT j.op=false\/∃x ys,Cs ops p j x ys
 w2:mF j.op=true->qT p.op=false\/∃x ys,Cs ops j p x ys
theorem Rg {ops:List Oper} {p j:Oper} (h:HM ops p j=true):vH ops p j:=by
 unfold HM at h
 simp only [cf] at h
 obtain ⟨⟨⟨h1,h2⟩,h3⟩,h4⟩:=h
 constructor
 ·intro d hd;rw [hd] at h1;simp at h1;exact h1.1.1
 ·intro d hd;rw [hd] at h1;simp at h1;exact h1.1.2
 ·intro d hd;rw [hd] at h1;simp at h1;exact h1.2
 ·intro d hd;rw [hd] at h2;simp at h2;exact h2.1
 ·intro d hd;rw [hd] at h2;simp at h2;exact h2.2
 ·intro g hg;rw [hg] at h3;simpa using h3
 ·intro g hg;rw [hg] at h4;simpa using h4
theorem GO {ops:List Oper} {p j:Oper} (h:indep ops p j=true):tj ops p j:=by
 unfold indep at h
 simp only [cf,oz,nK,Bool.and_eq_false_iff] at h
 obtain ⟨h0,h5,h6⟩:=h
 refine ⟨Rg h0,?_,?_⟩
 ·intro hw
  rcases h5 with (h5|h5)|h
  ·rw [hw] at h5;cases h5
  ·exact .inl h5
  ·exact .inr (Tg h)
 ·intro hw
  rcases h6 with (h6|h6)|h
  ·rw [hw] at h6;cases h6
  ·exact .inl h6
  ·exact .inr (Tg h)
theorem vH.symm {ops:List Oper} {p j:Oper} (h:vH ops p j):vH ops j p :=
 ⟨h.e1,h.e2,λd hd e=>h.d3 d e hd,h.d1,h.d2,h.g2,h.g1⟩
theorem tj.symm {ops:List Oper} {p j:Oper} (h:tj ops p j):tj ops j p:=⟨h.t.symm,h.w2,h.w1⟩
theorem ac3 {s s':St} {x:Operand} (h:∀t,x=.tmp t->s.t[t]?=s'.t[t]?):ev s x=ev s' x:=by
 cases x with
 | tmp t=>simp only [ev,h t rfl]
 | _=>rfl
theorem GJ {c:Call} {x:Operand} (h:x∈c.args.toList):x∈c.operands:=by
 unfold Call.operands
 exact Array.mem_append.2 (.inr (Array.mem_toList_iff.1 h))
theorem QU (X:Ctx) {s s':St} (l:Nat) (op:Op) (h:∀t∈jx op,s.t[t]?=s'.t[t]?) (hb:s.b=s'.b):dE X s l op=dE X s' l op:=by
 have e:∀x∈op.operands,ev s x=ev s' x:=λx hx=>ac3 λt ht=>h t (by
  subst ht
  exact Bl.2 ⟨.tmp t,by simpa using hx,rfl⟩)
 have VY:∀ps:Array (Nat × Operand),(∀x∈ps.map (·.2),ev s x=ev s' x)->(ps.toList.map λp=>(p.1,ev s p.2))=(ps.toList.map λp=>(p.1,ev s' p.2)):=λps hp =>
  pK λp hm=>by rw [hp p.2 (Array.mem_map.2 ⟨p,by simpa using hm,rfl⟩)]
 cases op<;>simp only [Op.operands] at e<;>simp only [dE,<-hb]
 case call c =>
  have ha:c.args.toList.map (ev s)=c.args.toList.map (ev s'):=pK λx hx=>e x (GJ hx)
  cases hc:c.callee with
  | value g =>
   have hg:ev s g=ev s' g:=e g (by simp [Call.operands,hc])
   simp only [hg,ha]
  | invoke r m=>rfl
  | builtin b=>simp only [ha]
 case build t ps=>rw [VY ps (λx hx=>e x (by simpa using hx))]
 case buildSlice t n ps=>rw [VY ps (λx hx=>e x (by simpa using hx))]
 case makeFunc fn first captured =>
  rw [pK (l:=first.toList) (f:=ev s) (g:=ev s') λx hx=>e x (by simp [<-Array.mem_toList_iff,hx]),
   pK (l:=captured.toList) (f:=ev s) (g:=ev s') λx hx=>e x (by simp [<-Array.mem_toList_iff,hx])]
 case slice t x lo hi mx=>cases lo<;>cases hi<;>cases mx<;>simp_all
 all_goals first|rfl|(simp_all;done)
def dU:SV->Option Nat
 | .ptr l _=>some l
 | .fq l _ _ _=>some l
 | .own l=>some l
 | .eh l _ _ _=>some l
 | .fm l=>some l
 | .fE l=>some l
 | _=>none
theorem Ua (X:Ctx) {b b':List Slot} (t:TypeId) {x:SV} (h:∀l,dU x=some l->b[l]?=b'[l]?):zr X b t x=zr X b' t x:=by
 unfold zr
 cases x<;>simp only [dU] at h<;>first|rfl|(simp only [h _ rfl])
theorem Th (X:Ctx) {b b':List Slot} (t:TypeId) {x y:SV} (h:∀l,dU x=some l->b[l]?=b'[l]?):xy X b t x y=xy X b' t x y:=by
 unfold xy
 cases x<;>simp only [dU] at h<;>first|rfl|(simp only [h _ rfl])
theorem Sm (X:Ctx) {b b':List Slot} (t:TypeId) {x y:SV} (ok:Bool) (h:∀l,dU x=some l->b[l]?=b'[l]?):zb X b t x y ok=zb X b' t x y ok:=by
 unfold zb
 cases x<;>simp only [dU] at h<;>first|rfl|(simp only [h _ rfl])
theorem Ti {b b':List Slot} {x:SV} (h:∀l,dU x=some l->b[l]?=b'[l]?):zi b x=zi b' x:=by
 unfold zi
 cases x with
 | ptr l off =>
  cases off with
  | zero=>simp only [h l rfl]
  | succ n=>rfl
 | _=>rfl
theorem GG (X:Ctx) {b b':List Slot} (t:TypeId) {x y z:SV} (h:∀l,dU x=some l->b[l]?=b'[l]?):vr X b t x y z=vr X b' t x y z:=by
 unfold vr
 cases x<;>simp only [dU] at h<;>first|rfl|(simp only [h _ rfl])
theorem QV (X:Ctx) {b b':List Slot} (t:TypeId) {x y:SV} (h:∀l,dU x=some l->b[l]?=b'[l]?):wW X b t x y=wW X b' t x y:=by
 unfold wW
 cases x<;>simp only [dU] at h<;>first|rfl|(simp only [h _ rfl])
theorem afh (X:Ctx) {b b':List Slot} (t:TypeId) {x:SV} (h:∀l,dU x=some l->b[l]?=b'[l]?):zI X b t x=zI X b' t x:=by
 unfold zI
 cases X.tt t with
 | none=>rfl
 | some i =>
  simp only
  cases i.d<;>cases x<;>simp only [dU] at h<;>first|rfl|(simp only [h _ rfl])
theorem VZ {b b':List Slot} {x:SV} (h:∀l,dU x=some l->b[l]?=b'[l]?):top b x=top b' x:=by
 cases x<;>simp only [dU] at h<;>first|rfl|(simp only [top,h _ rfl])
theorem ab2 (X:Ctx) {b b':List Slot} (l:Nat) (t:TypeId) {x y:SV} (h:∀l,dU x=some l->b[l]?=b'[l]?) (h':∀l,dU y=some l->b[l]?=b'[l]?) :
  vE X b l t x y=vE X b' l t x y:=by
 unfold vE
 rw [VZ h']
 by_cases hl:∃l,dU x=some l
 ·obtain ⟨l0,hl⟩:=hl
  have hb:=h l0 hl
  cases x<;>simp only [dU] at hl<;>first|(cases hl;done)|(cases hl;simp only [hb])
 ·cases x<;>first|exact absurd ⟨_,rfl⟩ hl|rfl|((repeat' (first|rfl|split))<;>simp_all;done)
theorem abt (X:Ctx) {b b':List Slot} (l:Nat) (t t':TypeId) {x y:SV} (h:∀l,dU x=some l->b[l]?=b'[l]?):vB X b l t t' x y=vB X b' l t t' x y:=by
 unfold vB
 cases x<;>simp only [dU] at h<;>first|rfl|(simp only [h _ rfl])
theorem aei (X:Ctx) {b b':List Slot} (t:TypeId) {x y:SV} (h:∀l,dU x=some l->b[l]?=b'[l]?) (h':∀l,dU y=some l->b[l]?=b'[l]?) :
  xG X b t x y=xG X b' t x y:=by
 unfold xG
 rw [VZ h']
 cases X.tt t with
 | none=>rfl
 | some i =>
  simp only
  cases i.d<;>try rfl
  rename_i e
  simp only
  cases X.tt e with
  | none=>cases x<;>rfl
  | some k=>cases x<;>simp only [dU] at h<;>first|rfl|simp only [h _ rfl]
theorem Tj (X:Ctx) {b b':List Slot} (l:Nat) (t:TypeId) {x:SV} (lo hi mx:Option SV) (h:∀l,dU x=some l->b[l]?=b'[l]?) :
  xA X b l t x lo hi mx=xA X b' l t x lo hi mx:=by
 unfold xA
 cases X.tt t with
 | none=>rfl
 | some i =>
  simp only
  cases i.d<;>try rfl
  rename_i e
  simp only
  cases X.tt e with
  | none=>rfl
  | some k=>cases mx<;>cases x<;>simp only [dU] at h<;>first|rfl|simp only [h _ rfl]
theorem ac4 (X:Ctx) {b b':List Slot} (t:TypeId) {x:SV} (h:∀l,dU x=some l->b[l]?=b'[l]?):xz X b t x=xz X b' t x:=by
 unfold xz
 cases X.tt t with
 | none=>rfl
 | some i =>
  simp only
  cases i.d<;>try rfl
  rename_i e
  simp only
  cases X.tt e with
  | none=>rfl
  | some k=>cases x<;>simp only [dU] at h<;>first|rfl|simp only [h _ rfl]
theorem RD (X:Ctx) {b b':List Slot} (l:Nat) (bi:Builtin) (ts:List TypeId) {xs:List SV} (h:∀x∈xs,∀l,dU x=some l->b[l]?=b'[l]?) :
  xf X b l bi ts xs=xf X b' l bi ts xs:=by
 unfold xf
 cases bi<;>try rfl
 ·simp only
  split
  ·rw [ab2 X l _ (h _ (by simp)) (h _ (by simp)),abt X l _ _ (h _ (by simp))]
  ·rfl
 ·simp only
  split
  ·rw [ac4 X _ (h _ (by simp))]
  ·rfl
 ·simp only
  split
  ·rw [aei X _ (h _ (by simp)) (h _ (by simp))]
  ·rfl
 ·simp only
  split
  ·rw [afh X _ (h _ (by simp))]
  ·rfl
theorem Mt (X:Ctx) (t:List SV) (b b':List Slot) (l:Nat) (op:Op) (h:qT op=false):dE X ⟨t,b⟩ l op=dE X ⟨t,b'⟩ l op:=by
 cases op<;>simp [qT] at h<;>rfl
theorem aej (X:Ctx) (t:List SV) (b b':List Slot) (l:Nat) (op:Op) (hd:deep op=false) (h:∀x∈op.operands,∀l,dU (ev ⟨t,b⟩ x)=some l->b[l]?=b'[l]?) :
  dE X ⟨t,b⟩ l op=dE X ⟨t,b'⟩ l op:=by
 cases op<;>try rfl
 case load ty x=>exact Ua X ty (h x (by simp [Op.operands]))
 case store ty x y=>exact Th X ty (h x (by simp [Op.operands]))
 case indexAddr ty x y=>exact QV X ty (h x (by simp [Op.operands]))
 case lookup ty x y ok=>exact Sm X ty ok (h x (by simp [Op.operands]))
 case entry x=>exact Ti (h x (by simp [Op.operands]))
 case mapUpdate ty x y z=>exact GG X ty (h x (by simp [Op.operands]))
 case insert ty x y z=>exact GG X ty (h x (by simp [Op.operands]))
 case slice ty x lo hi mx =>
  have e:∀x,ev ⟨t,b⟩ x=ev ⟨t,b'⟩ x:=λx=>by cases x<;>rfl
  have e':ev ⟨t,b⟩=ev ⟨t,b'⟩:=funext e
  simp only [dE,<-e']
  exact Tj X l ty _ _ _ (h x (by simp [Op.operands]))
 case call c =>
  simp only [dE]
  cases hc:c.callee with
  | value g=>simp [deep,hc] at hd
  | invoke r m=>rfl
  | builtin bi =>
   simp only
   have e:c.args.toList.map (ev ⟨t,b⟩)=c.args.toList.map (ev ⟨t,b'⟩):=pK λx _=>by cases x<;>rfl
   rw [<-e]
   refine RD X l bi _ λy hy=>?_
   obtain ⟨x,hx,rfl⟩:=jO.1 hy
   exact h x (by simp only [Op.operands];exact GJ hx)
def fX (s:St) (t:Tmp):Option Nat:=dU ((s.t[t]?).getD .any)
theorem aek (v:Value):dU (we v)=none:=by
 have h1:∀v,dU (jz v)=none:=λv=>by unfold jz;split<;>rfl
 unfold we
 split
 ·rfl
 ·exact h1 _
theorem Ub (X:Ctx) (t:List SV) (b b':List Slot) (l:Nat) (op:Op) {ys:List Tmp} (hm:fK op=some ys) (h:∀y∈ys,∀l,fX ⟨t,b⟩ y=some l->b[l]?=b'[l]?) :
  dE X ⟨t,b⟩ l op=dE X ⟨t,b'⟩ l op:=by
 cases op<;>try (cases hm;done)
 case load ty x =>
  cases x<;>simp [fK] at hm
  subst hm
  exact Ua X ty (h _ (by simp))
 case store ty x z =>
  cases x<;>simp [fK] at hm
  subst hm
  have e:ev ⟨t,b⟩ z=ev ⟨t,b'⟩ z:=by cases z<;>rfl
  simp only [dE,e]
  exact Th X ty (h _ (by simp))
 case indexAddr ty x z =>
  cases x<;>simp [fK] at hm
  subst hm
  have e:ev ⟨t,b⟩ z=ev ⟨t,b'⟩ z:=by cases z<;>rfl
  simp only [dE,e]
  exact QV X ty (h _ (by simp))
 case entry x =>
  cases x<;>simp [fK] at hm
  subst hm
  exact Ti (h _ (by simp))
 case lookup ty x z ok =>
  cases x<;>simp [fK] at hm
  subst hm
  have e:ev ⟨t,b⟩ z=ev ⟨t,b'⟩ z:=by cases z<;>rfl
  simp only [dE,e]
  exact Sm X ty ok (h _ (by simp))
 case mapUpdate ty x z z' =>
  cases x<;>simp [fK] at hm
  subst hm
  have e:ev ⟨t,b⟩ z=ev ⟨t,b'⟩ z:=by cases z<;>rfl
  have e':ev ⟨t,b⟩ z'=ev ⟨t,b'⟩ z':=by cases z'<;>rfl
  simp only [dE,e,e']
  exact GG X ty (h _ (by simp))
 case insert ty x z z' =>
  cases x<;>simp [fK] at hm
  subst hm
  have e:ev ⟨t,b⟩ z=ev ⟨t,b'⟩ z:=by cases z<;>rfl
  have e':ev ⟨t,b⟩ z'=ev ⟨t,b'⟩ z':=by cases z'<;>rfl
  simp only [dE,e,e']
  exact GG X ty (h _ (by simp))
 case slice ty x lo hi mx =>
  cases x<;>cases mx<;>simp [fK] at hm
  subst hm
  have e:∀x,ev ⟨t,b⟩ x=ev ⟨t,b'⟩ x:=λx=>by cases x<;>rfl
  have e':ev ⟨t,b⟩=ev ⟨t,b'⟩:=funext e
  simp only [dE,<-e']
  exact Tj X l ty _ _ _ (h _ (by simp))
 case call c =>
  simp only [dE]
  cases hc:c.callee with
  | value g=>simp [fK,hc] at hm
  | invoke r m=>rfl
  | builtin bi =>
   simp only [fK,hc,pL] at hm
   subst hm
   simp only
   have e:c.args.toList.map (ev ⟨t,b⟩)=c.args.toList.map (ev ⟨t,b'⟩):=pK λx _=>by cases x<;>rfl
   rw [<-e]
   refine RD X l bi _ λy hy=>?_
   obtain ⟨x,hx,rfl⟩:=jO.1 hy
   cases x with
   | tmp z=>exact h z (Bl.2 ⟨.tmp z,hx,rfl⟩)
   | const v =>
    intro l hl
    have:dU (we v)=some l:=hl
    rw [aek] at this;cases this
   | global g=>intro l hl;cases hl
   | func f=>intro l hl;cases hl
theorem GA (X:Ctx) (s:St) {ty:TypeId} {z:Operand} {y y':SV} {x:SV} {u:List (Nat × Slot)} (h:(vr X s.b ty (ev s z) y y').out x u) :
  ∃k sl,dU (ev s z)=some k/\u=[(k,sl)]/\∃x0,s.b[k]?=some x0/\x0.live=.live:=by
 unfold vr at h
 split at h<;>try exact h.elim
 split at h<;>try exact h.elim
 split at h<;>try exact h.elim
 split at h<;>try exact h.elim
 split at h<;>try exact h.elim
 rename_i k e
 split at h<;>try exact h.elim
 rename_i hs
 split at h<;>try exact h.elim
 split at h<;>try exact h.elim
 obtain ⟨_,_,_,rfl⟩:=h
 exact ⟨k,_,by rw [e];rfl,rfl,_,hs,rfl⟩
theorem Sn (X:Ctx) (s:St) (l:Nat) (op:Op) {x:SV} {u:List (Nat × Slot)} (h:(dE X s l op).out x u) {t:Tmp} (hm:iY op=some t) :
  ∀q∈u,fX s t=some q.1\/(fh op=true/\q.1=l):=by
 cases op<;>try (cases hm;done)
 case store ty z z' =>
  cases z<;>simp [iY] at hm
  rename_i t'
  subst hm
  simp only [dE] at h
  unfold xy at h
  split at h<;>try exact h.elim
  split at h<;>try exact h.elim
  split at h
  ·rename_i k off e
   repeat' split at h
   all_goals try exact h.elim
   obtain rfl:=h.2
   intro q hq;simp at hq;subst hq
   have e':fX s t'=dU (ev s (.tmp t')):=rfl
   left;rw [e',e];rfl
  ·rename_i k sz j off e
   repeat' split at h
   all_goals try exact h.elim
   obtain ⟨_,_,_,rfl⟩:=h
   intro q hq;simp at hq;subst hq
   have e':fX s t'=dU (ev s (.tmp t')):=rfl
   left;rw [e',e];rfl
  ·exact h.elim
 case mapUpdate ty z z' z'' =>
  cases z<;>simp [iY] at hm
  rename_i t'
  subst hm
  obtain ⟨k,sl,h1,rfl,_⟩:=GA X s h
  intro q hq;simp at hq;subst hq
  exact .inl h1
 case insert ty z z' z'' =>
  cases z<;>simp [iY] at hm
  rename_i t'
  subst hm
  obtain ⟨k,sl,h1,rfl,_⟩:=GA X s h
  intro q hq;simp at hq;subst hq
  exact .inl h1
 case call c =>
  obtain ⟨callee,args,argTypes⟩:=c
  simp only [dE] at h
  cases callee with
  | value g=>simp [iY] at hm
  | invoke r m=>simp [iY] at hm
  | builtin bi =>
   simp only at h
   have hd:∀{xs:List Operand} {a b:SV},xq xs=some t->xs.map (ev s)=[a,b]->fX s t=dU a:=by
    intro xs a b h1 h2
    unfold xq at h1
    split at h1
    ·simp at h1;subst h1
     simp only [il,Hb] at h2
     rw [<-h2.1];rfl
    ·cases h1
   unfold xf at h
   split at h<;>simp [iY] at hm
   ·split at h<;>try exact h.elim
    rename_i y z Ct
    have hl:=hd hm (by assumption)
    split at h
    ·unfold vE at h
     repeat' split at h
     all_goals try exact h.elim
     iterate 2
      obtain ⟨_,_,_,rfl⟩:=h
      intro q hq;simp at hq
      rcases hq with rfl|rfl
      ·left;rw [hl];rfl
      ·right;exact ⟨rfl,rfl⟩
     all_goals
      obtain ⟨_,_,_,rfl⟩:=h
      intro q hq;simp at hq;subst hq
      right;exact ⟨rfl,rfl⟩
    ·unfold vB at h
     repeat' split at h
     all_goals try exact h.elim
     ·obtain ⟨_,_,_,rfl⟩:=h
      intro q hq;simp at hq;subst hq
      right;exact ⟨rfl,rfl⟩
     obtain ⟨_,_,_,rfl⟩:=h
     intro q hq;simp at hq
     rcases hq with rfl|rfl
     ·left;rw [hl];rfl
     ·right;exact ⟨rfl,rfl⟩
   ·split at h<;>try exact h.elim
    have hl:=hd hm (by assumption)
    split at h<;>try exact h.elim
    unfold xG at h
    repeat' split at h
    all_goals try exact h.elim
    obtain ⟨_,_,_,rfl⟩:=h
    intro q hq;simp at hq;subst hq
    left;rw [hl];rfl
   ·split at h<;>try exact h.elim
    rename_i ty y OU Ct
    have hl:fX s t=dU y:=by
     unfold xq at hm
     split at hm
     ·rename_i e1
      simp at hm;subst hm
      rw [e1] at Ct
      simp only [il,Hb] at Ct
      rw [<-Ct.1];rfl
     ·cases hm
    unfold xz at h
    repeat' split at h
    all_goals try exact h.elim
    obtain ⟨_,_,_,rfl⟩:=h
    intro q hq;simp at hq;subst hq
    left;rw [hl];rfl
   ·exact h.elim
theorem Tk (X:Ctx) (s:St) (l:Nat) (op:Op) {x:SV} {u:List (Nat × Slot)} (h:(dE X s l op).out x u) {t:Tmp} (hm:tw op=some t) :
  ∀k,dU x=some k->fX s t=some k:=by
 have key:∀z,z=ev s (.tmp t)->∀k,dU z=some k->fX s t=some k:=by rintro z rfl k hk;exact hk
 cases op<;>try (cases hm;done)
 case move z =>
  cases z<;>simp [tw] at hm
  subst hm
  obtain ⟨rfl,_⟩:=h
  exact key _ rfl
 case assign z =>
  cases z<;>simp [tw] at hm
  subst hm
  obtain ⟨rfl,_⟩:=h
  exact key _ rfl
 case nilCheck z =>
  cases z<;>simp [tw] at hm
  subst hm
  simp only [dE] at h
  split at h<;>first|exact h.elim|skip
  ·rename_i e;obtain ⟨rfl,_⟩:=h;exact key _ e.symm
  ·rename_i e;obtain ⟨rfl,_⟩:=h;exact key _ e.symm
  ·obtain ⟨rfl,_⟩:=h;intro k hk;cases hk
 case fieldAddr ty z j =>
  cases z<;>simp [tw] at hm
  subst hm
  rename_i t
  simp only [dE] at h
  generalize hz:ev s (.tmp t)=z at h
  unfold Dg at h
  repeat' split at h
  all_goals first|exact h.elim|skip
  all_goals
   obtain ⟨rfl,_⟩:=h
   intro k hk
   exact key _ hz.symm k hk
 case slice ty z lo hi mx =>
  cases z<;>cases mx<;>simp [tw] at hm
  subst hm
  rename_i t
  have hc:∀a b,clip a b none=false:=λa b=>by unfold clip;split<;>simp_all
  simp only [dE,yQ] at h
  generalize hz:ev s (.tmp t)=z at h
  unfold xA at h
  simp only [hc,Bool.false_and,mT,if_false] at h
  repeat' split at h
  all_goals first|exact h.elim|skip
  all_goals
   intro k hk
   first
   | (obtain ⟨_,_,rfl,_⟩:=h;cases hk;done)
   | (obtain ⟨_,rfl,_⟩:=h;first|(cases hk;done)|exact key _ hz.symm k hk)
   | (obtain ⟨rfl,_⟩:=h;cases hk;done)
 case indexAddr ty z ix =>
  cases z<;>simp [tw] at hm
  subst hm
  rename_i t
  simp only [dE] at h
  generalize hz:ev s (.tmp t)=z at h
  unfold wW at h
  repeat' split at h
  all_goals first|exact h.elim|skip
  all_goals
   intro k hk
   first
   | (obtain ⟨_,_,rfl,_⟩:=h;first|(cases hk;done)|exact key _ hz.symm k hk)
   | (obtain ⟨rfl,_⟩:=h;first|(cases hk;done)|exact key _ hz.symm k hk)
   | (obtain ⟨_,rfl,_⟩:=h;exact key _ hz.symm k hk)
def zk (ops:List Oper) (lb:List (Oper × Nat)) (s:St) (t:Tmp):List Nat :=
 (match fX s t with|some l=>[l]|none=>[])++(lb.filterMap λp=>match En p.1 t&&newVar p.1.op&&fh p.1.op with|true=>some p.2|false=>none)
def o6 (ops:List Oper) (lb:List (Oper × Nat)) (s:St) (t:Tmp):List Nat:=match j2 ops 8 t with
 | some A=>A.flatMap (zk ops lb s)
 | none=>[]
structure nY (ops:List Oper) (K:Tmp->List Nat) (s:St):Prop where
 gR:∀t A,j2 ops 8 t=some A->∀l,fX s t=some l->l∈K t
 cl:∀o∈ops,∀t x A,o.dst=some t->newVar o.op=false->tw o.op=some x->j2 ops 8 t=some A->(∃B,j2 ops 8 x=some B)/\∀l∈K x,l∈K t
 Ju:∀p∈ops,∀j∈ops,∀x ys,Cs ops p j x ys->mF p.op=true->∀y∈ys,∀l∈K x,l∉K y
def rS (ops:List Oper) (K:Tmp->List Nat) (o:Oper) (l:Nat):Prop:=∀t A,o.dst=some t->newVar o.op=true->fh o.op=true->j2 ops 8 t=some A->l∈K t
theorem Hl {ops:List Oper} {lb:List (Oper × Nat)} {s:St}:∀o∈ops,∀t x A,o.dst=some t->newVar o.op=false->tw o.op=some x->j2 ops 8 t=some A ->
  (∃B,j2 ops 8 x=some B)/\∀l∈o6 ops lb s x,l∈o6 ops lb s t:=by
 intro o ho t x A hd hn hx hA
 have hA':pV (j2 ops 7) t ops=some A:=hA
 rcases DS hd ho hA' with h|⟨x',B,h1,h2,h3⟩
 ·rw [h] at hn;cases hn
 ·rw [hx] at h1;cases h1
  have h4:=Tf h2
  refine ⟨⟨B,h4⟩,λl hl=>?_⟩
  unfold o6 at hl ⊢
  rw [h4] at hl
  rw [hA]
  obtain ⟨y,hy,hl⟩:=Du.1 hl
  exact Du.2 ⟨y,h3 y hy,hl⟩
theorem De {ops:List Oper} {lb:List (Oper × Nat)} {s:St} {t:Tmp} {A:List Tmp} (h:j2 ops 8 t=some A) {l:Nat} (hl:l∈zk ops lb s t):l∈o6 ops lb s t:=by
 unfold o6
 rw [h]
 exact Du.2 ⟨t,Hk (show pV (j2 ops 7) t ops=some A from h),hl⟩
theorem nY.ne {ops:List Oper} {K:Tmp->List Nat} {s:St} (h:nY ops K s) {p j:Oper} (hp:p∈ops) (hj:j∈ops) {x:Tmp} {ys:List Tmp} (F:Cs ops p j x ys) (hw:mF p.op=true) {l:Nat} (hx:fX s x=some l)
  {y:Tmp} (hm:y∈ys):fX s y≠some l:=λhy=>by
 obtain ⟨A,hA⟩:=F.ax
 obtain ⟨B,hB,_⟩:=F.d A hA y hm
 exact h.Ju p hp j hj x ys F hw y hm l (h.gR x A hA l hx) (h.gR y B hB l hy)
def Sep (p j:Oper) (s:St):Prop:=mF p.op=true->qT j.op=false\/∃x ys,iY p.op=some x/\fK j.op=some ys/\∀l,fX s x=some l->∀y∈ys,fX s y≠some l
theorem tj.sep {ops:List Oper} {K:Tmp->List Nat} {s:St} {p j:Oper} (h:tj ops p j) (FA:nY ops K s) (hp:p∈ops) (hj:j∈ops):Sep p j s:=λhw=>by
 rcases h.w1 hw with h1|⟨x,ys,F⟩
 ·exact .inl h1
 ·exact .inr ⟨x,ys,F.p,F.j,λl hl y hy=>FA.ne hp hj F hw hl hy⟩
def MN (b:List Slot) (l:Nat):Prop:=∃z,b[l]?=some z/\z.live=.live
def Shape (b:List Slot) (l:Nat) (op:Op) (u:List (Nat × Slot)):Prop :=
 u=[]\/(fh op=true/\∃y,u=[(l,y)])\/(mF op=true/\∃l0 y,u=[(l0,y)]/\MN b l0) \/
  (mF op=true/\fh op=true/\∃l0 y z,u=[(l0,y),(l,z)]/\MN b l0)
theorem Sq (X:Ctx) (s:St) (l:Nat) (op:Op) {x:SV} {u:List (Nat × Slot)} (h:(dE X s l op).out x u):Shape s.b l op u:=by
 have no:∀{A:dH},A.out x u->(∀x' u',A.out x' u'->u'=[])->Shape s.b l op u:=λh1 h2=>.inl (h2 _ _ h1)
 cases op<;>simp only [dE] at h<;>try exact h.elim
 case move y=>exact .inl h.2
 case assign y=>exact .inl h.2
 case pick c y z =>
  unfold H8 at h
  split at h<;>try (first|exact h.elim|exact .inl h.2)
  split at h<;>first|exact h.elim|exact .inl h.2
 case alloc e =>
  split at h<;>first|exact h.elim|exact .inr (.inl ⟨rfl,_,h.2⟩)
 case box e y =>
  split at h<;>first|exact h.elim|exact .inr (.inl ⟨rfl,_,h.2⟩)
 case build t ps =>
  unfold HG at h
  repeat' split at h
  all_goals first|exact h.elim|exact .inl h.2
 case buildSlice t n ps =>
  unfold Dd at h
  repeat' split at h
  all_goals first|exact h.elim|exact .inl h.2|exact .inr (.inl ⟨rfl,_,h.2⟩)|(obtain ⟨_,_,_,h⟩:=h;exact .inr (.inl ⟨rfl,_,h⟩))
 case load t y =>
  unfold zr at h
  repeat' split at h
  all_goals first|exact h.elim|exact .inl h.2|(obtain ⟨_,_,_,h⟩:=h;exact .inl h)
 case store t y z =>
  unfold xy at h
  repeat' split at h
  all_goals try exact h.elim
  ·rename_i hs _
   exact .inr (.inr (.inl ⟨rfl,_,_,h.2,_,hs,rfl⟩))
  ·rename_i hs _
   obtain ⟨_,_,_,h⟩:=h
   exact .inr (.inr (.inl ⟨rfl,_,_,h,_,hs,rfl⟩))
 case mapUpdate t y z z' =>
  obtain ⟨k,sl,_,rfl,x0,hs,hl⟩:=GA X s h
  exact .inr (.inr (.inl ⟨rfl,_,_,rfl,_,hs,hl⟩))
 case insert t y z z' =>
  obtain ⟨k,sl,_,rfl,x0,hs,hl⟩:=GA X s h
  exact .inr (.inr (.inl ⟨rfl,_,_,rfl,_,hs,hl⟩))
 case entry y =>
  unfold zi at h
  repeat' split at h
  all_goals first|exact h.elim|exact .inl h.2
 case lookup t y z ok =>
  unfold zb at h
  repeat' split at h
  all_goals first|exact h.elim|(obtain ⟨_,_,_,h⟩:=h;exact .inl h)
 case makeMap t r =>
  unfold DM at h
  repeat' split at h
  all_goals first|exact h.elim|exact .inr (.inl ⟨rfl,_,h.2⟩)
 case range t y =>
  unfold Ee at h
  repeat' split at h
  all_goals first|exact h.elim|exact .inr (.inl ⟨rfl,_,h.2⟩)
 case nilCheck y =>
  repeat' split at h
  all_goals first|exact h.elim|exact .inl h.2
 case binOp bo t y z t' =>
  unfold IH at h
  repeat' split at h
  all_goals try exact h.elim
  all_goals try exact .inl h.2
  all_goals try exact .inl h.2.2
  ·unfold By at h;split at h<;>first|exact h.elim|exact .inl h.2
  ·unfold xx at h;split at h<;>first|exact h.elim|exact .inl h.2|exact .inl h.2.2
 case unOp uo t y =>
  unfold Jl at h
  repeat' split at h
  all_goals first|exact h.elim|exact .inl h.2
 case convert src dst y =>
  unfold H9 at h
  repeat' split at h
  all_goals first|exact h.elim|exact .inl h.2
 case makeFunc fn fs cs=>exact .inl h.2
 case makeSlice t n m =>
  unfold Dh at h
  repeat' split at h
  all_goals first|exact h.elim|exact .inr (.inl ⟨rfl,_,h.2.2⟩)
 case slice t y lo hi mx =>
  unfold xA at h
  split at h<;>try exact h.elim
  split at h<;>try exact h.elim
  ·split at h<;>try exact h.elim
   split at h
   ·rename_i hc
    split at h<;>try exact h.elim
    have hm:mx.isSome=true:=by
     simp only [cf] at hc
     cases mx with
     | none=>simp [clip] at hc
     | some _=>rfl
    exact .inr (.inl ⟨by cases mx<;>simp at hm;rfl,_,h.2⟩)
   ·repeat' split at h
    all_goals first|exact h.elim|exact .inl h.2.2|exact .inl h.2|(obtain ⟨_,_,_,h⟩:=h;exact .inl h)
  ·repeat' split at h
   all_goals first|exact h.elim|exact .inl h.2.2
  ·repeat' split at h
   all_goals first|exact h.elim|(obtain ⟨_,_,_,h⟩:=h;exact .inl h)
 case fieldAddr t y j =>
  unfold Dg at h
  repeat' split at h
  all_goals first|exact h.elim|exact .inl h.2
 case field t y j =>
  unfold HH at h
  repeat' split at h
  all_goals first|exact h.elim|exact .inl h.2
 case indexAddr t y z =>
  unfold wW at h
  repeat' split at h
  all_goals first|exact h.elim|exact .inl h.2|exact .inl h.2.2|(obtain ⟨_,_,_,h⟩:=h;exact .inl h)
 case index t y z =>
  unfold HF at h
  repeat' split at h
  all_goals first|exact h.elim|exact .inl h.2|exact .inl h.2.2|(obtain ⟨_,_,_,h⟩:=h;exact .inl h)
 case extract y j =>
  repeat' split at h
  all_goals first|exact h.elim|exact .inl h.2
 case call c =>
  split at h
  ·split at h<;>try exact h.elim
   unfold BJ at h
   repeat' split at h
   all_goals first|exact h.elim|(obtain ⟨_,_,_,h⟩:=h;exact .inl h)
  ·rename_i bi hc
   obtain ⟨callee,args,argTypes⟩:=c
   simp only at hc h
   subst hc
   unfold xf at h
   split at h<;>try exact h.elim
   ·split at h<;>try exact h.elim
    unfold zI at h
    repeat' split at h
    all_goals first|exact h.elim|exact .inl h.2|(obtain ⟨_,_,_,h⟩:=h;exact .inl h)
   ·split at h<;>try exact h.elim
    split at h
    ·unfold vE at h
     repeat' split at h
     all_goals try exact h.elim
     iterate 2
      rename_i hs _
      obtain ⟨_,_,_,h⟩:=h
      exact .inr (.inr (.inr ⟨rfl,rfl,_,_,_,h,_,hs,rfl⟩))
     all_goals
      obtain ⟨_,_,_,h⟩:=h
      exact .inr (.inl ⟨rfl,_,h⟩)
    ·unfold vB at h
     split at h<;>try exact h.elim
     ·repeat' split at h
      all_goals try exact h.elim
      obtain ⟨_,_,_,h⟩:=h
      exact .inr (.inl ⟨rfl,_,h⟩)
     split at h<;>try exact h.elim
     rename_i hs
     repeat' split at h
     all_goals try exact h.elim
     obtain ⟨_,_,_,h⟩:=h
     exact .inr (.inr (.inr ⟨rfl,rfl,_,_,_,h,_,hs,rfl⟩))
   ·split at h<;>try exact h.elim
    split at h<;>try exact h.elim
    unfold xG at h
    repeat' split at h
    all_goals try exact h.elim
    rename_i hs _
    obtain ⟨_,_,_,h⟩:=h
    exact .inr (.inr (.inl ⟨rfl,_,_,h,_,hs,rfl⟩))
   ·split at h<;>try exact h.elim
    unfold xz at h
    repeat' split at h
    all_goals try exact h.elim
    rename_i hs _
    obtain ⟨_,_,_,h⟩:=h
    exact .inr (.inr (.inl ⟨rfl,_,_,h,_,hs,rfl⟩))
   ·split at h<;>try exact h.elim
    all_goals
     (first|unfold Cp at h|unfold BR at h)
     repeat' split at h
     all_goals first|exact h.elim|exact .inl h.2
   ·split at h<;>try exact h.elim
    all_goals
     (first|unfold Cp at h|unfold BR at h)
     repeat' split at h
     all_goals first|exact h.elim|exact .inl h.2
   ·split at h<;>try exact h.elim
    unfold II at h
    repeat' split at h
    all_goals first|exact h.elim|exact .inl h.2
  ·exact h.elim
def kS (g:Option (Tmp × SV)) (t:List SV):List SV :=
 match g with
 | some (i,v)=>t.set i v
 | none=>t
def lz (d:Option Tmp) (x:SV) (t:List SV):List SV :=
 match d with
 | some i=>t.set i x
 | none=>t
theorem L8 (g:Option (Tmp × SV)) (t:List SV) (i:Nat) (h:∀j v,g=some (j,v)->j≠i):(kS g t)[i]?=t[i]?:=by
 unfold kS
 split
 ·rw [fQ (h _ _ rfl)]
 ·rfl
theorem Ht (d:Option Tmp) (x:SV) (t:List SV) (i:Nat) (h:∀j,d=some j->j≠i):(lz d x t)[i]?=t[i]?:=by
 unfold lz
 split
 ·rw [fQ (h _ rfl)]
 ·rfl
def oe (X:Ctx) (ops:List Oper) (o:Oper) (l:Nat) (s:St) (g:Option (Tmp × SV)) (x:SV) (u:List (Nat × Slot)):Prop :=
 match tv ops o with
 | none=>g=none/\(dE X s l o.op).out x u
 | some (none,_)=>False
 | some (some i,want)=>∃y v,s.t[i]?=some y/\kf y=some v/\g=some (i,v) /\
  match ku want v with
  | true=>(dE X ⟨s.t.set i v,s.b⟩ l o.op).out x u
  | false=>x=.bX []/\u=[]
theorem ze {X:Ctx} {ops:List Oper} {o:Oper} {l:Nat} {s s':St} :
  Out X ops o l s s'↔∃g x u,oe X ops o l s g x u/\s'=⟨lz o.dst x (kS g s.t),ka s.b u⟩:=by
 unfold Out oe
 rcases hg:tv ops o with _|⟨_|i,want⟩
 ·constructor
  ·rintro ⟨x,u,h,rfl⟩;exact ⟨none,x,u,⟨rfl,h⟩,rfl⟩
  ·rintro ⟨g,x,u,⟨rfl,h⟩,rfl⟩;exact ⟨x,u,h,rfl⟩
 ·simp
 ·constructor
  ·rintro ⟨y,v,h1,h2,h3⟩
   cases hw:ku want v<;>rw [hw] at h3<;>simp only at h3
   ·exact ⟨some (i,v),.bX [],[],⟨y,v,h1,h2,rfl,by rw [hw];exact ⟨rfl,rfl⟩⟩,h3⟩
   ·obtain ⟨x,u,h4,h5⟩:=h3
    exact ⟨some (i,v),x,u,⟨y,v,h1,h2,rfl,by rw [hw];exact h4⟩,h5⟩
  ·rintro ⟨g,x,u,⟨y,v,h1,h2,rfl,h3⟩,h5⟩
   refine ⟨y,v,h1,h2,?_⟩
   cases hw:ku want v<;>rw [hw] at h3<;>simp only at h3 ⊢
   ·obtain ⟨rfl,rfl⟩:=h3;exact h5
   ·exact ⟨x,u,h3,h5⟩
theorem aa4 (g:Option (Tmp × SV)) (t:List SV):(kS g t).length=t.length:=by unfold kS;split<;>simp
theorem aa5 (g:Option Tmp) (x:SV) (t:List SV):(lz g x t).length=t.length:=by unfold lz;split<;>simp
theorem Sr {y v:SV} (h:kf y=some v):kf v=some v:=by
 unfold kf at h
 split at h<;>simp at h<;>subst h<;>rfl
theorem oe.guard {X:Ctx} {ops:List Oper} {o:Oper} {l:Nat} {s:St} {g:Option (Tmp × SV)} {x:SV} {u:List (Nat × Slot)} (h:oe X ops o l s g x u) :
  (gT ops o=none/\g=none)\/∃i y v,gT ops o=some i/\g=some (i,v)/\s.t[i]?=some y/\kf y=some v:=by
 unfold oe at h
 unfold gT
 split at h
 ·rename_i hg;rw [hg];exact .inl ⟨rfl,h.1⟩
 ·exact h.elim
 ·rename_i i want hg
  obtain ⟨y,v,h1,h2,h3,_⟩:=h
  rw [hg]
  exact .inr ⟨i,y,v,rfl,h3,h1,h2⟩
theorem oe.shape {X:Ctx} {ops:List Oper} {o:Oper} {l:Nat} {s:St} {g:Option (Tmp × SV)} {x:SV} {u:List (Nat × Slot)} (h:oe X ops o l s g x u) :
  Shape s.b l o.op u:=by
 unfold oe at h
 split at h
 ·exact Sq X s l o.op h.2
 ·exact h.elim
 ·rename_i i want hg
  obtain ⟨y,v,h1,h2,h3,h4⟩:=h
  split at h4
  ·exact Sq X ⟨s.t.set i v,s.b⟩ l o.op h4
  ·exact .inl h4.2
theorem QW {f:Fr} {s:St} {η:Nat->Value} {H:aV} {a:Act} {w:World} (D:Den f s η H a w) (x:Operand) {l:Nat} (h:dU (ev s x)=some l):aP s.b l≠.un:=by
 have hx:=D.ev x
 intro hq
 cases hs:ev s x<;>rw [hs] at h hx<;>simp [dU] at h<;>subst h<;>simp only [rel,hq] at hx
theorem Uc {f:Fr} {s:St} {η:Nat->Value} {H:aV} {a:Act} {w:World} (D:Den f s η H a w) {l:Nat} (hu:s.b[l]?=some .un) (y:Slot) :
  ∀(n:Nat) (x:SV) (v:Value),rel η (aP s.b) H x v->gM (s.b.set l y) n x=gM s.b n x
 | 0,x,v,h=>rfl
 | n+1,x,v,h=>by
  have map:∀(cs:List SV) (vs:List Value),aK η (aP s.b) H cs vs->cs.map (gM (s.b.set l y) n)=cs.map (gM s.b n):=by
   intro cs
   induction cs with
   | nil=>intro vs h;rfl
   | cons c r ih =>
    intro vs h
    simp only [aK] at h
    obtain ⟨u,us,h1,h2,h3⟩:=h
    simp only [il]
    rw [Uc D hu y n c u h2,ih us h3]
  have hq:aP s.b l=.un:=by rw [bR hu];rfl
  cases x with
  | own k =>
   have hk:l≠k:=by
    rintro rfl
    simp only [rel,hq] at h
   simp only [gM,fQ hk]
  | eh k sz m j =>
   have hk:l≠k:=by
    rintro rfl
    simp only [rel,hq] at h
   simp only [gM,fQ hk]
  | ptr k off =>
   have hk:l≠k:=by
    rintro rfl
    simp only [rel,hq] at h
   simp only [gM,fQ hk]
   split
   ·rename_i e cs hs
    simp only [rel,bR hs,Slot.live] at h
    obtain ⟨jC,vs,h3,h4,h5⟩:=D.sl k _ hs
    rw [map _ _ h5]
   ·rfl
  | fm k =>
   have hk:l≠k:=by
    rintro rfl
    simp only [rel,hq] at h
   simp only [gM,fQ hk]
  | fn g cs ds =>
   simp only [gM]
   simp only [rel] at h
   obtain ⟨vs,us,h1,h2,h3⟩:=h
   rw [map _ _ h2,map _ _ h3]
  | agg cs =>
   simp only [gM]
   simp only [rel] at h
   obtain ⟨vs,h1,h2⟩:=h
   rw [map _ _ h2]
  | bX cs =>
   simp only [gM]
   simp only [rel] at h
   obtain ⟨vs,h1,h2⟩:=h
   rw [map _ _ h2]
  | _=>rfl
theorem Tl {f:Fr} {s:St} {η:Nat->Value} {H:aV} {a:Act} {w:World} (D:Den f s η H a w) {l:Nat} (hu:s.b[l]?=some .un) (y:Slot) :
  ∀(cs:List SV) (vs:List Value),aK η (aP s.b) H cs vs->cs.map (view (s.b.set l y))=cs.map (view s.b)
 | [],vs,h=>rfl
 | c :: r,vs,h=>by
  simp only [aK] at h
  obtain ⟨u,us,h1,h2,h3⟩:=h
  simp only [il,view]
  rw [Uc D hu y 4 c u h2]
  exact congrArg _ (Tl D hu y r us h3)
theorem ab3 (X:Ctx) {f:Fr} {t:List SV} {b:List Slot} (G:Good f ⟨t,b⟩) {l':Nat} {y:Slot} (jr:b[l']?=some .un) (op:Op) (hd:deep op=true) (l:Nat) :
  dE X ⟨t,b⟩ l op=dE X ⟨t,b.set l' y⟩ l op:=by
 cases op<;>try (cases hd;done)
 case call c =>
  have e:∀x,ev ⟨t,b.set l' y⟩ x=ev ⟨t,b⟩ x:=λx=>by cases x<;>rfl
  obtain ⟨η,H,a,w,D⟩:=G
  simp only [dE]
  cases hc:c.callee with
  | invoke r m=>rfl
  | builtin bi=>simp [deep,hc] at hd
  | value g =>
   have hg:=D.ev g
   have hm:c.args.toList.map (ev ⟨t,b.set l' y⟩)=c.args.toList.map (ev ⟨t,b⟩):=pK λx _=>e x
   simp only [hm,e]
   split
   ·rename_i fid first cap hv
    rw [hv] at hg
    simp only [rel] at hg
    obtain ⟨fs,cs,_,h1,h2⟩:=hg
    have ha:aK η (aP b) H (c.args.toList.map (ev ⟨t,b⟩)) (c.args.toList.map a.eval):=by
     generalize c.args.toList=xs
     induction xs with
     | nil=>simp [aK]
     | cons x r ih=>simp only [il,aK];exact ⟨_,_,rfl,D.ev x,ih⟩
    simp only [BJ]
    rw [Tl D jr y _ _ (gI (gI h1 ha) h2)]
   ·rfl
theorem Ss (X:Ctx) {f:Fr} {t t':List SV} {b:List Slot} (G:Good f ⟨t,b⟩) {o:Oper} {l l':Nat} {Fe:Op} {u':List (Nat × Slot)} (x6:Shape b l' Fe u')
  (jr:fh Fe=true->b[l']?=some .un) (hw:mF Fe=true->qT o.op=false\/∃ys,fK o.op=some ys/\∀y∈ys,∀q∈u',fX ⟨t,b⟩ y≠some q.1)
  (ht:∀i∈jx o.op,t[i]?=t'[i]?):dE X ⟨t,b⟩ l o.op=dE X ⟨t',ka b u'⟩ l o.op:=by
 rw [<-QU X (s:=⟨t,ka b u'⟩) (s':=⟨t',ka b u'⟩) l o.op ht rfl]
 rcases x6 with rfl|⟨nk,y,rfl⟩|⟨Al,l0,y,rfl,_⟩|⟨Al,_,l0,y,z,rfl,_⟩
 ·rfl
 ·by_cases hr:qT o.op=false
  ·exact Mt X t b _ l o.op hr
  ·cases hd:deep o.op with
   | true=>exact ab3 X G (jr nk) o.op hd l
   | false =>
    refine aej X t b _ l o.op hd ?_
    intro x _ k hk
    obtain ⟨η,H,a,w,D⟩:=G
    have bM:=QW D x hk
    have:l'≠k:=by
     rintro rfl
     exact bM (by rw [bR (jr nk)];rfl)
    simp only [ka]
    rw [fQ this]
 ·rcases hw Al with h|⟨z,h1,h2⟩
  ·exact Mt X t b _ l o.op h
  ·refine Ub X t b _ l o.op h1 λe he k hk=>?_
   simp only [ka]
   rw [fQ (by rintro rfl;exact h2 e he (_,y) (by simp) hk)]
 ·rcases hw Al with h|⟨z',h1,h2⟩
  ·exact Mt X t b _ l o.op h
  ·refine Ub X t b _ l o.op h1 λe he k hk=>?_
   simp only [ka]
   rw [fQ (by rintro rfl;exact h2 e he (_,z) (by simp) hk),fQ (by rintro rfl;exact h2 e he (_,y) (by simp) hk)]
theorem ac5 {y v:SV} (h:kf y=some v):dU y=dU v:=by
 unfold kf at h
 split at h<;>simp at h<;>subst h<;>rfl
theorem Di {s:St} {i:Nat} {y v:SV} (h1:s.t[i]?=some y) (h2:kf y=some v) (b:List Slot) (t:Tmp):fX ⟨s.t.set i v,b⟩ t=fX s t:=by
 unfold fX
 simp only
 rw [jN]
 split
 ·rename_i e;subst e
  rw [if_pos (bq.1 h1).1,h1]
  simp [ac5 h2]
 ·rfl
theorem Su {t:List SV} {b b':List Slot} {d:Option Tmp} {x:SV} {i:Tmp} (h:∀j,d=some j->j≠i):fX ⟨lz d x t,b⟩ i=fX ⟨t,b'⟩ i:=by
 unfold fX;simp only;rw [Ht _ _ _ _ h]
section
variable {P:Program} {X:Ctx} {f:Fr} {s:St}
theorem Good.guard {y v:SV} {i:Nat} (G:Good f s) (h1:s.t[i]?=some y) (h2:kf y=some v):Good f ⟨s.t.set i v,s.b⟩:=by
 obtain ⟨η,H,a,w,D⟩:=G
 exact ⟨η,H,a,w,(D.guard h1 h2).1⟩
theorem oe.gR {X:Ctx} {ops:List Oper} {o:Oper} {l:Nat} {s:St} {g:Option (Tmp × SV)} {x:SV} {u:List (Nat × Slot)} (h:oe X ops o l s g x u) {t:Tmp} (hm:iY o.op=some t) :
  ∀q∈u,fX s t=some q.1\/(fh o.op=true/\q.1=l):=by
 unfold oe at h
 split at h
 ·exact Sn X s l o.op h.2 hm
 ·exact h.elim
 ·obtain ⟨y,v,h1,h2,h3,h4⟩:=h
  split at h4
  ·intro q hq
   have:=Sn X _ l o.op h4 hm q hq
   rwa [Di h1 h2] at this
  ·obtain ⟨_,rfl⟩:=h4
   simp
theorem Sv (G:Good f s) {ops:List Oper} {o o':Oper} {l l':Nat} (ap:vH ops o' o) (fk:Sep o' o s) (jr:fh o'.op=true->s.b[l']?=some .un)
  {g':Option (Tmp × SV)} {x':SV} {u':List (Nat × Slot)} (h':oe X ops o' l' s g' x' u') (g:Option (Tmp × SV)) (x:SV) (u:List (Nat × Slot)) :
  oe X ops o l s g x u↔oe X ops o l ⟨lz o'.dst x' (kS g' s.t),ka s.b u'⟩ g x u:=by
 have x6:=h'.shape
 have kG:=h'.guard
 have zL:=λt hm=>h'.gR (t:=t) hm
 have hw:mF o'.op=true->qT o.op=false\/∃ys,fK o.op=some ys/\∀y∈ys,∀q∈u',fX s y≠some q.1:=by
  intro Al
  rcases fk Al with h|⟨x,ys,h0,h3,h⟩
  ·exact .inl h
  ·refine .inr ⟨ys,h3,λy hy q hq=>?_⟩
   rcases zL x h0 q hq with h1|⟨h1,h2⟩
   ·exact h _ h1 y hy
   ·obtain ⟨η,H,a,w,D⟩:=G
    intro hk
    refine QW D (.tmp y) (show dU (ev s (.tmp y))=some l' by rw [<-h2];exact hk) ?_
    rw [bR (jr h1)];rfl
 have ht:∀i∈jx o.op,(lz o'.dst x' (kS g' s.t))[i]?=s.t[i]?:=by
  intro i hi
  rw [Ht _ _ _ _ (λj hj e=>ap.d1 j hj (e ▸ hi)),L8]
  intro j v hv e
  subst e
  rcases kG with ⟨_,h⟩|⟨j',y,v',h1,h2,_⟩
  ·rw [h] at hv;cases hv
  ·rw [h2] at hv
   simp at hv
   exact ap.g1 j' h1 (hv.1 ▸ hi)
 unfold oe
 split
 ·rw [Ss X (t:=s.t) (b:=s.b) (l:=l) G x6 jr hw (λi hi=>(ht i hi).symm)]
 ·exact vu
 ·rename_i i want hg
  have pk:gT ops o=some i:=by simp [gT,hg]
  have hd:∀j,o'.dst=some j->j≠i:=λj hj e=>ap.d2 j hj (e ▸ pk)
  have hi:(lz o'.dst x' (kS g' s.t))[i]?=(kS g' s.t)[i]?:=Ht _ _ _ _ hd
  have key:∀v,(∃y,s.t[i]?=some y/\kf y=some v)↔(∃y,(lz o'.dst x' (kS g' s.t))[i]?=some y/\kf y=some v):=by
   intro v
   rw [hi]
   by_cases kF:∃v',g'=some (i,v')
   ·obtain ⟨v',e⟩:=kF
    rcases kG with ⟨_,h⟩|⟨j,y,v2,h1,h2,h3,h4⟩
    ·rw [h] at e;cases e
    ·rw [h2] at e
     simp at e
     obtain ⟨rfl,rfl⟩:=e
     rw [h2]
     have aQ:=(bq.1 h3).1
     simp only [kS,nH aQ]
     constructor
     ·rintro ⟨y',e1,e2⟩
      rw [h3] at e1;simp at e1;subst e1
      rw [h4] at e2;simp at e2;subst e2
      exact ⟨_,rfl,Sr h4⟩
     ·rintro ⟨y',e1,e2⟩
      simp at e1;subst e1
      rw [Sr h4] at e2;simp at e2;subst e2
      exact ⟨y,h3,h4⟩
   ·rw [L8]
    intro j v' hv e
    subst e
    exact kF ⟨v',hv⟩
  have BS:∀v,(∃y,s.t[i]?=some y/\kf y=some v)->dE X ⟨s.t.set i v,s.b⟩ l o.op=dE X ⟨(lz o'.dst x' (kS g' s.t)).set i v,ka s.b u'⟩ l o.op:=by
   rintro v ⟨y,h1,h2⟩
   refine Ss X (t:=s.t.set i v) (b:=s.b) (l:=l) (G.guard h1 h2) x6 jr (λAl=>(hw Al).imp id λ⟨Yf,a1,a2⟩=>⟨Yf,a1,λy' qd q hq=>by rw [Di h1 h2];exact a2 y' qd q hq⟩) (λk hk=>?_)
   by_cases OV:i=k
   ·subst OV
    have aQ:=(bq.1 h1).1
    rw [nH aQ,nH (by rw [aa5,aa4];exact aQ)]
   ·rw [fQ OV,fQ OV,ht k hk]
  constructor
  ·rintro ⟨y,v,h1,h2,h3,h4⟩
   obtain ⟨y',e1,e2⟩:=(key v).1 ⟨y,h1,h2⟩
   refine ⟨y',v,e1,e2,h3,?_⟩
   rw [<-BS v ⟨y,h1,h2⟩]
   exact h4
  ·rintro ⟨y',v,e1,e2,h3,h4⟩
   obtain ⟨y,h1,h2⟩:=(key v).2 ⟨y',e1,e2⟩
   refine ⟨y,v,h1,h2,h3,?_⟩
   rw [BS v ⟨y,h1,h2⟩]
   exact h4
theorem QX (l:Nat) (x:Slot):∀(u:List (Nat × Slot)) (b:List Slot),(∀p∈u,p.1≠l)->ka (b.set l x) u=(ka b u).set l x
 | [],b,_=>rfl
 | (k,y) :: u,b,h=>by
  simp only [ka]
  rw [Lz _ _ (h (k,y) (by simp)).symm]
  exact QX l x u _ λp hp=>h p (by simp [hp])
theorem QM:∀(u v:List (Nat × Slot)) (b:List Slot),(∀p∈u,∀q∈v,p.1≠q.1)->ka (ka b u) v=ka (ka b v) u
 | [],v,b,_=>rfl
 | (l,x) :: u,v,b,h=>by
  simp only [ka]
  rw [QM u v _ λp hp q hq=>h p (by simp [hp]) q hq]
  rw [QX l x v b λq hq=>(h (l,x) (by simp) q hq).symm]
theorem LI (t:List SV) (i j:Nat) (x y:SV) (h:i≠j):(t.set i x).set j y=(t.set j y).set i x:=Lz _ _ h
theorem swap (G:Good f s) {ops:List Oper} {p j:Oper} {lp lj:Nat} (ap:vH ops p j) (sp:Sep p j s) (sj:Sep j p s) (OW:fh p.op=true->s.b[lp]?=some .un) (OX:fh j.op=true->s.b[lj]?=some .un)
  (bM:fh p.op=true->fh j.op=true->lp≠lj) {s1 s2:St} (h1:Out X ops p lp s s1) (h2:Out X ops j lj s1 s2):∃Cu,Out X ops j lj s Cu/\Out X ops p lp Cu s2:=by
 rw [ze] at h1 h2
 obtain ⟨gp,xp,up,hp,rfl⟩:=h1
 obtain ⟨gj,xj,uj,hj,rfl⟩:=h2
 have Am:=(Sv G ap sp OW hp gj xj uj).2 hj
 have oN:=(Sv G ap.symm sj OX Am gp xp up).1 hp
 refine ⟨_,ze.2 ⟨gj,xj,uj,Am,rfl⟩,ze.2 ⟨gp,xp,up,oN,?_⟩⟩
 congr 1
 ·
  simp only
  have tE:=hp.guard
  have Fs:=Am.guard
  have c1:∀(d:Option Tmp) (x:SV) (g:Option (Tmp × SV)) (t:List SV),(∀i k v,d=some i->g=some (k,v)->i≠k)->kS g (lz d x t)=lz d x (kS g t):=by
   intro d x g t h
   unfold kS lz
   cases d<;>cases g<;>try rfl
   rename_i i kv
   obtain ⟨k,v⟩:=kv
   exact LI _ _ _ _ _ (h i k v rfl rfl)
  have c2:∀(d e:Option Tmp) (x y:SV) (t:List SV),(∀i k,d=some i->e=some k->i≠k)->lz e y (lz d x t)=lz d x (lz e y t):=by
   intro d e x y t h
   unfold lz
   cases d<;>cases e<;>try rfl
   rename_i i k
   exact LI _ _ _ _ _ (h i k rfl rfl)
  have c3:kS gj (kS gp s.t)=kS gp (kS gj s.t):=by
   rcases tE with ⟨_,rfl⟩|⟨i,y,v,a1,rfl,a3,a4⟩
   ·rfl
   rcases Fs with ⟨_,rfl⟩|⟨k,y',v',b1,rfl,b3,b4⟩
   ·rfl
   by_cases e:i=k
   ·subst e
    rw [a3] at b3;simp at b3;subst b3
    rw [a4] at b4;simp at b4;subst b4
    rfl
   ·exact LI _ _ _ _ _ e
  rw [c1 p.dst xp gj _ (by
   rintro i k v hd hg rfl
   rcases Fs with ⟨_,h⟩|⟨k,y',v',b1,h,_⟩
   ·rw [h] at hg;cases hg
   ·rw [h] at hg;simp at hg;exact ap.d2 i hd (by rw [b1,hg.1]))]
  rw [c2 p.dst j.dst xp xj _ (by rintro i k hd he rfl;exact ap.d3 i hd he)]
  rw [c1 j.dst xj gp _ (by
   rintro i k v hd hg rfl
   rcases tE with ⟨_,h⟩|⟨k,y',v',b1,h,_⟩
   ·rw [h] at hg;cases hg
   ·rw [h] at hg;simp at hg;exact ap.e2 i hd (by rw [b1,hg.1]))]
  rw [c3]
 ·
  refine QM up uj s.b ?_
  have fk:=hp.shape
  have hsj:=Am.shape
  have ef:∀{b:List Slot} {l:Nat} {op:Op} {u:List (Nat × Slot)},Shape b l op u->∀q∈u,(q.1=l/\fh op=true)\/(mF op=true/\MN b q.1):=by
   rintro b l op u (rfl|⟨h,y,rfl⟩|⟨h,l0,y,rfl,h2⟩|⟨h,h3,l0,y,z,rfl,h2⟩) q hq
   ·simp at hq
   ·simp at hq;subst hq;exact .inl ⟨rfl,h⟩
   ·simp at hq;subst hq;exact .inr ⟨h,h2⟩
   ·simp at hq
    rcases hq with rfl|rfl
    ·exact .inr ⟨h,h2⟩
    ·exact .inl ⟨rfl,h3⟩
  intro q hq r hr e
  rcases ef fk q hq with ⟨e1,a1⟩|⟨w1,z1,l1,Yg⟩<;>rcases ef hsj r hr with ⟨e2,a2⟩|⟨w2,z2,l2,Yh⟩
  ·exact bM a1 a2 (by rw [<-e1,<-e2,e])
  ·rw [<-e,e1,OW a1] at l2
   simp at l2;subst l2;cases Yh
  ·rw [e,e2,OX a2] at l1
   simp at l1;subst l1;cases Yg
  ·have rd:∀{o:Oper},mF o.op=true->qT o.op=true:=by
    intro o w
    cases hjj:o.op<;>rw [hjj] at w<;>simp [mF,Td] at w<;>rfl
   rcases sp w1 with h|⟨x,ys,h,oM,ah0⟩
   ·rw [rd w2] at h;cases h
   rcases sj w2 with h'|⟨x',Yf,h',aq5,_⟩
   ·rw [rd w1] at h';cases h'
   have live:∀{o:Oper} {l k:Nat},(fh o.op=true->s.b[l]?=some .un)->fh o.op=true/\k=l->s.b[k]?=some z1\/s.b[k]?=some z2->False:=by
    rintro o l k hu ⟨ha,rfl⟩ (h|h)
    ·rw [hu ha] at h;simp at h;subst h;cases Yg
    ·rw [hu ha] at h;simp at h;subst h;cases Yh
   rcases hp.gR h q hq with a1|a1
   ·rcases Am.gR h' r hr with a2|a2
    ·exact ah0 _ a1 x' (Te h' oM) (by rw [a2,e])
    ·exact live OX a2 (.inr l2)
   ·exact live OW a1 (.inl l1)
theorem RE {o:Oper} {l:Nat} {x:SV} {u:List (Nat × Slot)} (h:(dE X s l o.op).out x u) (hn:newVar o.op=true) (hR:∀f S,X.sp f=some S->∀a,LF (S.res a)):∀k,dU x=some k->fh o.op=true/\k=l:=by
 cases ho:o.op<;>rw [ho] at hn h<;>try (cases hn;done)
 case call c =>
  obtain ⟨callee,args,argTypes⟩:=c
  cases callee with
  | value g =>
   simp only [dE] at h
   split at h<;>try exact h.elim
   unfold BJ at h
   split at h<;>try exact h.elim
   rename_i S hS
   intro k hk
   exfalso
   have:∃a,x=S.res a:=by
    split at h
    ·obtain ⟨a,_,h1,_⟩:=h;exact ⟨a,h1⟩
    ·obtain ⟨a,_,h1,_⟩:=h;exact ⟨a,h1⟩
   obtain ⟨a,rfl⟩:=this
   have h1:=hR _ _ hS a
   cases hq:S.res a<;>rw [hq] at h1 hk<;>simp [LF,dU] at h1 hk
  | invoke r m=>cases hn
  | builtin bi =>
   cases bi<;>try (cases hn;done)
   simp only [dE,xf] at h
   split at h<;>try exact h.elim
   split at h
   all_goals
    first|unfold vE at h|unfold vB at h
    repeat' split at h
    all_goals try exact h.elim
    all_goals
     obtain ⟨_,_,rfl,_⟩:=h
     intro k hk
     exact ⟨rfl,by simpa [dU] using hk.symm⟩
 case buildSlice t n ps =>
  simp only [dE] at h
  unfold Dd at h
  repeat' split at h
  all_goals try exact h.elim
  all_goals
   intro k hk
   first|obtain ⟨rfl,_⟩:=h|obtain ⟨_,_,rfl,_⟩:=h
   first|(cases hk;done)|exact ⟨rfl,by simpa [dU] using hk.symm⟩
 case makeSlice t n m =>
  simp only [dE] at h
  unfold Dh at h
  repeat' split at h
  all_goals try exact h.elim
  all_goals
   intro k hk
   obtain ⟨_,rfl,_⟩:=h
   exact ⟨rfl,by simpa [dU] using hk.symm⟩
 case makeMap t r =>
  simp only [dE] at h
  unfold DM at h
  repeat' split at h
  all_goals try exact h.elim
  all_goals
   intro k hk
   obtain ⟨rfl,_⟩:=h
   exact ⟨rfl,by simpa [dU] using hk.symm⟩
 case range t y =>
  simp only [dE] at h
  unfold Ee at h
  repeat' split at h
  all_goals try exact h.elim
  all_goals
   intro k hk
   obtain ⟨rfl,_⟩:=h
   exact ⟨rfl,by simpa [dU] using hk.symm⟩
 all_goals
  simp only [dE] at h
  split at h<;>try exact h.elim
  intro k hk
  obtain ⟨rfl,_⟩:=h
  exact ⟨rfl,by simpa [dU] using hk.symm⟩
theorem nY.out {ops:List Oper} {o:Oper} {l:Nat} {s1:St} {Ks:Tmp->List Nat} (FA:nY ops Ks s) (mo:o∈ops) (hl:rS ops Ks o l) (hR:∀f S,X.sp f=some S->∀a,LF (S.res a)) (h:Out X ops o l s s1):nY ops Ks s1:=by
 rw [ze] at h
 obtain ⟨g,x,u,hr,rfl⟩:=h
 refine ⟨λt A ht k hk=>?_,FA.cl,FA.Ju⟩
 have BT:(∀j,o.dst=some j->j≠t)->k∈Ks t:=by
  intro hd
  rw [Su (b':=s.b) hd] at hk
  rcases hr.guard with ⟨_,rfl⟩|⟨i,y,v,_,rfl,h3,h4⟩
  ·exact FA.gR t A ht k hk
  ·rw [show fX ⟨kS (some (i,v)) s.t,s.b⟩ t=fX s t from Di h3 h4 s.b t] at hk
   exact FA.gR t A ht k hk
 by_cases hd:o.dst=some t
 ·have hx:dU x=some k:=by
   unfold fX at hk
   simp only [hd,lz] at hk
   by_cases aQ:t < (kS g s.t).length
   ·rw [nH aQ] at hk;exact hk
   ·rw [ox (by rw [y4];exact Nat.le_of_not_lt aQ)] at hk;cases hk
  cases hn:newVar o.op with
  | true =>
   have dI:fh o.op=true/\k=l:=by
    unfold oe at hr
    split at hr
    ·exact RE hr.2 hn hR k hx
    ·exact hr.elim
    ·obtain ⟨y,v,h1,h2,h3,h4⟩:=hr
     split at h4
     ·exact RE h4 hn hR k hx
     ·rw [h4.1] at hx;cases hx
   rw [dI.2];exact hl t A hd hn dI.1 ht
  | false =>
   rcases DS hd mo (show pV (j2 ops 7) t ops=some A from ht) with h|⟨z,B,h1,h2,h3⟩
   ·rw [h] at hn;cases hn
   obtain ⟨⟨B',hB'⟩,EI⟩:=FA.cl o mo t z A hd hn h1 ht
   refine EI k (FA.gR z B' hB' k ?_)
   unfold oe at hr
   split at hr
   ·exact Tk X s l o.op hr.2 h1 k hx
   ·exact hr.elim
   ·obtain ⟨y,v,g1,g2,g3,g4⟩:=hr
    split at g4
    ·have:=Tk X _ l o.op g4 h1 k hx
     rwa [Di g1 g2] at this
    ·rw [g4.1] at hx;cases hx
 ·exact BT λj hj e=>hd (by rw [hj,e])
theorem afi {ops:List Oper} {o:Oper} {l k:Nat} {s1:St} (h:Out X ops o l s s1) (hk:s.b[k]?=some .un) (bM:fh o.op=true->l≠k):s1.b[k]?=some .un:=by
 rw [ze] at h
 obtain ⟨g,x,u,hr,rfl⟩:=h
 simp only
 rcases hr.shape with rfl|⟨h,y,rfl⟩|⟨h,l0,y,rfl,z,h2,OY⟩|⟨h,h3,l0,y,z,rfl,z',h2,OY⟩
 ·exact hk
 ·simp only [ka];rw [fQ (bM h)];exact hk
 ·simp only [ka]
  rw [fQ (by rintro rfl;rw [hk] at h2;simp at h2;subst h2;cases OY)];exact hk
 ·simp only [ka]
  rw [fQ (bM h3),fQ (by rintro rfl;rw [hk] at h2;simp at h2;subst h2;cases OY)];exact hk
end
end Go.Vc
