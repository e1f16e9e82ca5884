import Derived.Test.YthnhbemmlfaihaaGreatT5
set_option linter.unusedVariables false
set_option linter.unusedSimpArgs false
set_option maxRecDepth 10000
set_option maxHeartbeats 64000000
namespace Go.Vc
open Go
def lZ (op:Op):List Tmp:=op.operands.toList.filterMap λ|.tmp t=>some t|_=>none
def gT (ops:List Oper) (o:Oper):Option Tmp:=(xY ops o).bind (·.1)
def vA:Op->Bool
 | .load ..|.store ..|.indexAddr ..|.slice ..|.call _|.lookup ..|.mapUpdate ..|.insert ..|.entry _=>true
 | _=>false
def ack:Op->Bool
 | .call c=>match c.callee with
  | .builtin .append=>true
  | .builtin .copy=>true
  | .builtin .clear=>true
  | _=>false
 | _=>false
def qn:Op->Bool
 | .store ..|.mapUpdate ..|.insert ..=>true
 | op=>ack op
def deep:Op->Bool
 | .call c=>match c.callee with
  | .value _=>true
  | _=>false
 | _=>false
def tmpsOf (xs:List Operand):List Tmp:=xs.filterMap λ|.tmp t=>some t|_=>none
def Cq:List Operand->Option Tmp
 | .tmp t :: _=>some t
 | _=>none
def ly:Op->Option Tmp
 | .store _ x _=>match x with|.tmp t=>some t|_=>none
 | .mapUpdate _ x _ _=>match x with|.tmp t=>some t|_=>none
 | .insert _ x _ _=>match x with|.tmp t=>some t|_=>none
 | .call c=>match c.callee with
  | .builtin .append=>Cq c.args.toList
  | .builtin .copy=>Cq c.args.toList
  | .builtin .clear=>Cq c.args.toList
  | _=>none
 | _=>none
def iI:Op->Option (List Tmp)
 | .load _ x=>match x with|.tmp t=>some [t]|_=>none
 | .store _ x _=>match x with|.tmp t=>some [t]|_=>none
 | .lookup _ x _ _=>match x with|.tmp t=>some [t]|_=>none
 | .entry x=>match x with|.tmp t=>some [t]|_=>none
 | .mapUpdate _ x _ _=>match x with|.tmp t=>some [t]|_=>none
 | .insert _ x _ _=>match x with|.tmp t=>some [t]|_=>none
 | .indexAddr _ x _=>match x with|.tmp t=>some [t]|_=>none
 | .slice _ x _ _ mx=>match x,mx with|.tmp t,none=>some [t]|_,_=>none
 | .call c=>match c.callee with
  | .builtin _=>some (tmpsOf c.args.toList)
  | _=>none
 | _=>none
theorem amk {xs:List Operand} {t:Tmp} (h:Cq xs=some t):t∈tmpsOf xs:=by
 unfold Cq at h
 split at h
 ·simp at h;subst h;simp [tmpsOf]
 ·cases h
theorem acm {op:Op} {t:Tmp} {ys:List Tmp} (h:ly op=some t) (h':iI op=some ys):t∈ys:=by
 cases op<;>try (cases h;done)
 case store ty x z=>cases x<;>simp [ly] at h;subst h;simp [iI] at h';subst h';simp
 case mapUpdate ty x y z=>cases x<;>simp [ly] at h;subst h;simp [iI] at h';subst h';simp
 case insert ty x y z=>cases x<;>simp [ly] at h;subst h;simp [iI] at h';subst h';simp
 case call c =>
  cases hc:c.callee with
  | value g=>simp [ly,hc] at h
  | invoke r m=>simp [ly,hc] at h
  | builtin b =>
   simp only [iI,hc,u7] at h'
   subst h'
   cases b<;>simp [ly,hc] at h<;>exact amk h
def newVar:Op->Bool
 | .alloc _|.box ..|.buildSlice ..|.makeSlice ..|.makeMap ..|.range ..=>true
 | .call c=>match c.callee with
  | .builtin .append=>true
  | .value _=>true
  | _=>false
 | _=>false
def xZ:Op->Option Tmp
 | .fieldAddr _ x _=>match x with|.tmp t=>some t|_=>none
 | .indexAddr _ x _=>match x with|.tmp t=>some t|_=>none
 | .nilCheck x=>match x with|.tmp t=>some t|_=>none
 | .move x=>match x with|.tmp t=>some t|_=>none
 | .assign x=>match x with|.tmp t=>some t|_=>none
 | .slice _ x _ _ mx=>match x,mx with|.tmp t,none=>some t|_,_=>none
 | _=>none
def KQ (o:Oper) (t:Tmp):Bool:=match o.dst with|some d=>Nat.beq d t|none=>false
theorem TK {o:Oper} {t:Tmp}:KQ o t=true↔o.dst=some t:=by
 unfold KQ
 cases o.dst with
 | none=>simp
 | some d=>simp only [u7];exact ⟨pe,λh=>h ▸ Nat.beq_refl d⟩
def uk (
     r:Tmp->Option (List Tmp)) (t:Tmp):List Oper->Option (List Tmp)
 | []=>some [t]
 | o :: os=>match KQ o t with
  | false=>uk r t os
  | true=>match newVar o.op with
   | true=>uk r t os
   | false=>match xZ o.op with
    | none=>none
    | some x=>match r x,uk r t os with
     | some a,some b=>some (a++b)
     | _,_=>none
def mN (ops:List Oper):Nat->Tmp->Option (List Tmp)
 | 0,_=>none
 | n+1,t=>uk (mN ops n) t ops
theorem Oh {r r':Tmp->Option (List Tmp)} (h:∀x a,r x=some a->r' x=some a) {t:Tmp}:∀{os:List Oper} {A:List Tmp},uk r t os=some A->uk r' t os=some A
 | [],A,e=>e
 | o :: os,A,e=>by
  unfold uk at e ⊢
  split at e
  ·exact Oh h e
  ·split at e
   ·exact Oh h e
   ·split at e
    ·cases e
    ·split at e
     ·rename_i a b h1 h2
      simp only [h _ _ h1,Oh h h2]
      exact e
     ·cases e
theorem acn {ops:List Oper}:∀{n:Nat} {t:Tmp} {A:List Tmp},mN ops n t=some A->mN ops (n+1) t=some A
 | 0,t,A,h=>by cases h
 | n+1,t,A,h=>Oh (λ_ _=>acn) h
theorem Oi {r:Tmp->Option (List Tmp)} {t:Tmp}:∀{os:List Oper} {A:List Tmp},uk r t os=some A->t∈A
 | [],A,e=>by cases e;simp
 | o :: os,A,e=>by
  unfold uk at e
  split at e
  ·exact Oi e
  ·split at e
   ·exact Oi e
   ·split at e
    ·cases e
    ·split at e
     ·rename_i a b h1 h2
      cases e
      exact Eu _ (Oi h2)
     ·cases e
theorem J9 {r:Tmp->Option (List Tmp)} {t:Tmp} {o:Oper} (hd:o.dst=some t):∀{os:List Oper} {A:List Tmp},o∈os->uk r t os=some A ->
  newVar o.op=true\/∃x B,xZ o.op=some x/\r x=some B/\∀y∈B,y∈A
 | [],A,h,_=>by cases h
 | o' :: os,A,h,e=>by
  unfold uk at e
  split at e
  ·rename_i h1
   rcases ez.1 h with rfl|h
   ·rw [TK.2 hd] at h1;cases h1
   ·exact J9 hd h e
  ·split at e
   ·rename_i h1 h2
    rcases ez.1 h with rfl|h
    ·exact .inl h2
    ·exact J9 hd h e
   ·split at e
    ·cases e
    ·rename_i x h3
     split at e
     ·rename_i a b h4 h5
      cases e
      rcases ez.1 h with rfl|h
      ·exact .inr ⟨x,a,h3,h4,λy hy=>Cg _ hy⟩
      ·rcases J9 hd h h5 with h6|⟨x,B,h6,h7,h8⟩
       ·exact .inl h6
       ·exact .inr ⟨x,B,h6,h7,λy hy=>Eu _ (h8 y hy)⟩
     ·cases e
def x3:List Nat->List Nat->Bool
 | [],_=>true
 | a :: r,l=>(l.all λb=>!Nat.beq a b)&&x3 r l
theorem adn:∀{x y:List Nat},x3 x y=true->∀l∈x,l∉y
 | [],_,_,l,hl=>by cases hl
 | a :: r,y,h,l,hl=>by
  simp only [x3,er] at h
  rcases ez.1 hl with rfl|hl
  ·intro hy
   have:=m8.1 h.1 l hy
   simp at this
  ·exact adn h.2 l hl
def ET (ops:List Oper) (A:List Tmp):List Tmp->Bool
 | []=>true
 | y :: r=>(match mN ops 8 y with
  | some B=>x3 A B
  | none=>false)&&ET ops A r
def Rb (ops:List Oper) (p j:Oper):Bool :=
 match ly p.op,iI j.op with
 | some x,some ys=>match mN ops 8 x with
  | some A=>ET ops A ys
  | none=>false
 | _,_=>false
structure IH (ops:List Oper) (p j:Oper) (x:Tmp) (ys:List Tmp):Prop where
 p:ly p.op=some x
 j:iI j.op=some ys
 ax:∃A,mN ops 8 x=some A
 d:∀A,mN ops 8 x=some A->∀y∈ys,∃B,mN ops 8 y=some B/\x3 A B=true
theorem abn {ops:List Oper} {A:List Tmp}:∀{ys:List Tmp},ET ops A ys=true->∀y∈ys,∃B,mN ops 8 y=some B/\x3 A B=true
 | [],_,y,hy=>by cases hy
 | z :: r,h,y,hy=>by
  simp only [ET,er] at h
  rcases ez.1 hy with rfl|hy
  ·have h1:=h.1
   split at h1
   ·rename_i B hB;exact ⟨B,hB,h1⟩
   ·cases h1
  ·exact abn h.2 y hy
theorem aco {ops:List Oper} {p j:Oper} (h:Rb ops p j=true):∃x ys,IH ops p j x ys:=by
 unfold Rb at h
 split at h
 ·rename_i x ys h1 h2
  split at h
  ·rename_i A h3
   exact ⟨x,ys,h1,h2,⟨A,h3⟩,λA' e1=>by rw [h3] at e1;cases e1;exact abn h⟩
  ·cases h
 ·cases h
def O8 (ops:List Oper) (p j:Oper):Bool :=
 (match p.dst with|some d=>!(lZ j.op).contains d&&gT ops j != some d&&j.dst != some d|none=>true) &&
 (match j.dst with|some d=>!(lZ p.op).contains d&&gT ops p != some d|none=>true) &&
 (match gT ops p with|some g=>!(lZ j.op).contains g|none=>true) &&
 (match gT ops j with|some g=>!(lZ p.op).contains g|none=>true)
def indep (ops:List Oper) (p j:Oper):Bool :=
 O8 ops p j&&((!(qn p.op&&vA j.op)||Rb ops p j)&&(!(qn j.op&&vA p.op)||Rb ops j p))
structure AR (ops:List Oper) (p j:Oper):Prop where
 d1:∀d,p.dst=some d->d∉lZ j.op
 d2:∀d,p.dst=some d->gT ops j≠some d
 d3:∀d,p.dst=some d->j.dst≠some d
 e1:∀d,j.dst=some d->d∉lZ p.op
 e2:∀d,j.dst=some d->gT ops p≠some d
 g1:∀g,gT ops p=some g->g∉lZ j.op
 g2:∀g,gT ops j=some g->g∉lZ p.op
structure xS (ops:List Oper) (p j:Oper):Prop where
 t:AR ops p j
 w1:qn p.op=true->vA j.op=false\/∃x ys,IH ops p j x ys
 w2:qn j.op=true->vA p.op=false\/∃x ys,IH ops j p x ys
theorem aaC {ops:List Oper} {p j:Oper} (h:O8 ops p j=true):AR ops p j:=by
 unfold O8 at h
 simp only [er] at h
 obtain ⟨⟨⟨h1,h2⟩,h3⟩,h4⟩:=h
 constructor
 ·intro d hd;rw [hd] at h1;simp at h1;exact h1.1.1
 ·intro d hd;rw [hd] at h1;simp at h1;exact h1.1.2
 ·intro d hd;rw [hd] at h1;simp at h1;exact h1.2
 ·intro d hd;rw [hd] at h2;simp at h2;exact h2.1
 ·intro d hd;rw [hd] at h2;simp at h2;exact h2.2
 ·intro g hg;rw [hg] at h3;simpa using h3
 ·intro g hg;rw [hg] at h4;simpa using h4
theorem NO {ops:List Oper} {p j:Oper} (h:indep ops p j=true):xS ops p j:=by
 unfold indep at h
 simp only [er,v5,p8,Bool.and_eq_false_iff] at h
 obtain ⟨h0,h5,h6⟩:=h
 refine ⟨aaC h0,?_,?_⟩
 ·intro hw
  rcases h5 with (h5|h5)|h
  ·rw [hw] at h5;cases h5
  ·exact .inl h5
  ·exact .inr (aco h)
 ·intro hw
  rcases h6 with (h6|h6)|h
  ·rw [hw] at h6;cases h6
  ·exact .inl h6
  ·exact .inr (aco h)
theorem AR.symm {ops:List Oper} {p j:Oper} (h:AR ops p j):AR ops j p :=
 ⟨h.e1,h.e2,λd hd e=>h.d3 d e hd,h.d1,h.d2,h.g2,h.g1⟩
theorem xS.symm {ops:List Oper} {p j:Oper} (h:xS ops p j):xS ops j p:=⟨h.t.symm,h.w2,h.w1⟩
theorem an7 {s s':St} {x:Operand} (h:∀t,x=.tmp t->s.t[t]?=s'.t[t]?):ev s x=ev s' x:=by
 cases x with
 | tmp t=>simp only [ev,h t rfl]
 | _=>rfl
theorem NI {c:Call} {x:Operand} (h:x∈c.args.toList):x∈c.operands:=by
 unfold Call.operands
 exact Array.mem_append.2 (.inr (Array.mem_toList_iff.1 h))
theorem aal (X:Ctx) {s s':St} (l:Nat) (op:Op) (h:∀t∈lZ op,s.t[t]?=s'.t[t]?) (hb:s.b=s'.b):eP X s l op=eP X s' l op:=by
 have e:∀x∈op.operands,ev s x=ev s' x:=λx hx=>an7 λt ht=>h t (by
  subst ht
  exact Ey.2 ⟨.tmp t,by simpa using hx,rfl⟩)
 have afA:∀ps:Array (Nat × Operand),(∀x∈ps.map (·.2),ev s x=ev s' x)->(ps.toList.map λp=>(p.1,ev s p.2))=(ps.toList.map λp=>(p.1,ev s' p.2)):=λps hp =>
  vX λp hm=>by rw [hp p.2 (Array.mem_map.2 ⟨p,by simpa using hm,rfl⟩)]
 cases op<;>simp only [Op.operands] at e<;>simp only [eP,<-hb]
 case call c =>
  have ha:c.args.toList.map (ev s)=c.args.toList.map (ev s'):=vX λx hx=>e x (NI hx)
  cases hc:c.callee with
  | value g =>
   have hg:ev s g=ev s' g:=e g (by simp [Call.operands,hc])
   simp only [hg,ha]
  | invoke r m=>rfl
  | builtin b=>simp only [ha]
 case build t ps=>rw [afA ps (λx hx=>e x (by simpa using hx))]
 case buildSlice t n ps=>rw [afA ps (λx hx=>e x (by simpa using hx))]
 case makeFunc fn first captured =>
  rw [vX (l:=first.toList) (f:=ev s) (g:=ev s') λx hx=>e x (by simp [<-Array.mem_toList_iff,hx]),
   vX (l:=captured.toList) (f:=ev s) (g:=ev s') λx hx=>e x (by simp [<-Array.mem_toList_iff,hx])]
 case slice t x lo hi mx=>cases lo<;>cases hi<;>cases mx<;>simp_all
 all_goals first|rfl|(simp_all;done)
def fb:SV->Option Nat
 | .ptr l _=>some l
 | .ik l _ _ _=>some l
 | .own l=>some l
 | .gD l _ _ _=>some l
 | .e9 l=>some l
 | .iC l=>some l
 | _=>none
theorem ado (X:Ctx) {b b':List Slot} (t:TypeId) {x:SV} (h:∀l,fb x=some l->b[l]?=b'[l]?):E6 X b t x=E6 X b' t x:=by
 unfold E6
 cases x<;>simp only [fb] at h<;>first|rfl|(simp only [h _ rfl])
theorem acp (X:Ctx) {b b':List Slot} (t:TypeId) {x y:SV} (h:∀l,fb x=some l->b[l]?=b'[l]?):Cv X b t x y=Cv X b' t x y:=by
 unfold Cv
 cases x<;>simp only [fb] at h<;>first|rfl|(simp only [h _ rfl])
theorem abo (X:Ctx) {b b':List Slot} (t:TypeId) {x y:SV} (ok:Bool) (h:∀l,fb x=some l->b[l]?=b'[l]?):EF X b t x y ok=EF X b' t x y ok:=by
 unfold EF
 cases x<;>simp only [fb] at h<;>first|rfl|(simp only [h _ rfl])
theorem acq {b b':List Slot} {x:SV} (h:∀l,fb x=some l->b[l]?=b'[l]?):ES b x=ES b' x:=by
 unfold ES
 cases x with
 | ptr l off =>
  cases off with
  | zero=>simp only [h l rfl]
  | succ n=>rfl
 | _=>rfl
theorem ND (X:Ctx) {b b':List Slot} (t:TypeId) {x y z:SV} (h:∀l,fb x=some l->b[l]?=b'[l]?):Aw X b t x y z=Aw X b' t x y z:=by
 unfold Aw
 cases x<;>simp only [fb] at h<;>first|rfl|(simp only [h _ rfl])
theorem aam (X:Ctx) {b b':List Slot} (t:TypeId) {x y:SV} (h:∀l,fb x=some l->b[l]?=b'[l]?):B8 X b t x y=B8 X b' t x y:=by
 unfold B8
 cases x<;>simp only [fb] at h<;>first|rfl|(simp only [h _ rfl])
theorem aqk (X:Ctx) {b b':List Slot} (t:TypeId) {x:SV} (h:∀l,fb x=some l->b[l]?=b'[l]?):Fo X b t x=Fo X b' t x:=by
 unfold Fo
 cases X.tt t with
 | none=>rfl
 | some i =>
  simp only
  cases i.d<;>cases x<;>simp only [fb] at h<;>first|rfl|(simp only [h _ rfl])
theorem afB {b b':List Slot} {x:SV} (h:∀l,fb x=some l->b[l]?=b'[l]?):top b x=top b' x:=by
 cases x<;>simp only [fb] at h<;>first|rfl|(simp only [top,h _ rfl])
theorem ank (X:Ctx) {b b':List Slot} (l:Nat) (t:TypeId) {x y:SV} (h:∀l,fb x=some l->b[l]?=b'[l]?) (h':∀l,fb y=some l->b[l]?=b'[l]?) :
  AN X b l t x y=AN X b' l t x y:=by
 unfold AN
 rw [afB h']
 by_cases hl:∃l,fb x=some l
 ·obtain ⟨l0,hl⟩:=hl
  have hb:=h l0 hl
  cases x<;>simp only [fb] at hl<;>first|(cases hl;done)|(cases hl;simp only [hb])
 ·cases x<;>first|exact absurd ⟨_,rfl⟩ hl|rfl|((repeat' (first|rfl|split))<;>simp_all;done)
theorem amG (X:Ctx) {b b':List Slot} (l:Nat) (t t':TypeId) {x y:SV} (h:∀l,fb x=some l->b[l]?=b'[l]?):AI X b l t t' x y=AI X b' l t t' x y:=by
 unfold AI
 cases x<;>simp only [fb] at h<;>first|rfl|(simp only [h _ rfl])
theorem apj (X:Ctx) {b b':List Slot} (t:TypeId) {x y:SV} (h:∀l,fb x=some l->b[l]?=b'[l]?) (h':∀l,fb y=some l->b[l]?=b'[l]?) :
  CF X b t x y=CF X b' t x y:=by
 unfold CF
 rw [afB h']
 cases X.tt t with
 | none=>rfl
 | some i =>
  simp only
  cases i.d<;>try rfl
  rename_i e
  simp only
  cases X.tt e with
  | none=>cases x<;>rfl
  | some k=>cases x<;>simp only [fb] at h<;>first|rfl|simp only [h _ rfl]
theorem acr (X:Ctx) {b b':List Slot} (l:Nat) (t:TypeId) {x:SV} (lo hi mx:Option SV) (h:∀l,fb x=some l->b[l]?=b'[l]?) :
  Cx X b l t x lo hi mx=Cx X b' l t x lo hi mx:=by
 unfold Cx
 cases X.tt t with
 | none=>rfl
 | some i =>
  simp only
  cases i.d<;>try rfl
  rename_i e
  simp only
  cases X.tt e with
  | none=>rfl
  | some k=>cases mx<;>cases x<;>simp only [fb] at h<;>first|rfl|simp only [h _ rfl]
theorem an8 (X:Ctx) {b b':List Slot} (t:TypeId) {x:SV} (h:∀l,fb x=some l->b[l]?=b'[l]?):Cw X b t x=Cw X b' t x:=by
 unfold Cw
 cases X.tt t with
 | none=>rfl
 | some i =>
  simp only
  cases i.d<;>try rfl
  rename_i e
  simp only
  cases X.tt e with
  | none=>rfl
  | some k=>cases x<;>simp only [fb] at h<;>first|rfl|simp only [h _ rfl]
theorem aaW (X:Ctx) {b b':List Slot} (l:Nat) (bi:Builtin) (ts:List TypeId) {xs:List SV} (h:∀x∈xs,∀l,fb x=some l->b[l]?=b'[l]?) :
  Ck X b l bi ts xs=Ck X b' l bi ts xs:=by
 unfold Ck
 cases bi<;>try rfl
 ·simp only
  split
  ·rw [ank X l _ (h _ (by simp)) (h _ (by simp)),amG X l _ _ (h _ (by simp))]
  ·rfl
 ·simp only
  split
  ·rw [an8 X _ (h _ (by simp))]
  ·rfl
 ·simp only
  split
  ·rw [apj X _ (h _ (by simp)) (h _ (by simp))]
  ·rfl
 ·simp only
  split
  ·rw [aqk X _ (h _ (by simp))]
  ·rfl
theorem Uw (X:Ctx) (t:List SV) (b b':List Slot) (l:Nat) (op:Op) (h:vA op=false):eP X ⟨t,b⟩ l op=eP X ⟨t,b'⟩ l op:=by
 cases op<;>simp [vA] at h<;>rfl
theorem apk (X:Ctx) (t:List SV) (b b':List Slot) (l:Nat) (op:Op) (hd:deep op=false) (h:∀x∈op.operands,∀l,fb (ev ⟨t,b⟩ x)=some l->b[l]?=b'[l]?) :
  eP X ⟨t,b⟩ l op=eP X ⟨t,b'⟩ l op:=by
 cases op<;>try rfl
 case load ty x=>exact ado X ty (h x (by simp [Op.operands]))
 case store ty x y=>exact acp X ty (h x (by simp [Op.operands]))
 case indexAddr ty x y=>exact aam X ty (h x (by simp [Op.operands]))
 case lookup ty x y ok=>exact abo X ty ok (h x (by simp [Op.operands]))
 case entry x=>exact acq (h x (by simp [Op.operands]))
 case mapUpdate ty x y z=>exact ND X ty (h x (by simp [Op.operands]))
 case insert ty x y z=>exact ND X ty (h x (by simp [Op.operands]))
 case slice ty x lo hi mx =>
  have e:∀x,ev ⟨t,b⟩ x=ev ⟨t,b'⟩ x:=λx=>by cases x<;>rfl
  have e':ev ⟨t,b⟩=ev ⟨t,b'⟩:=funext e
  simp only [eP,<-e']
  exact acr X l ty _ _ _ (h x (by simp [Op.operands]))
 case call c =>
  simp only [eP]
  cases hc:c.callee with
  | value g=>simp [deep,hc] at hd
  | invoke r m=>rfl
  | builtin bi =>
   simp only
   have e:c.args.toList.map (ev ⟨t,b⟩)=c.args.toList.map (ev ⟨t,b'⟩):=vX λx _=>by cases x<;>rfl
   rw [<-e]
   refine aaW X l bi _ λy hy=>?_
   obtain ⟨x,hx,rfl⟩:=kf.1 hy
   exact h x (by simp only [Op.operands];exact NI hx)
def iS (s:St) (t:Tmp):Option Nat:=fb ((s.t[t]?).getD .any)
theorem apl (v:Value):fb (Bt v)=none:=by
 have h1:∀v,fb (mF v)=none:=λv=>by unfold mF;split<;>rfl
 unfold Bt
 split
 ·rfl
 ·exact h1 _
theorem adp (X:Ctx) (t:List SV) (b b':List Slot) (l:Nat) (op:Op) {ys:List Tmp} (hm:iI op=some ys) (h:∀y∈ys,∀l,iS ⟨t,b⟩ y=some l->b[l]?=b'[l]?) :
  eP X ⟨t,b⟩ l op=eP X ⟨t,b'⟩ l op:=by
 cases op<;>try (cases hm;done)
 case load ty x =>
  cases x<;>simp [iI] at hm
  subst hm
  exact ado X ty (h _ (by simp))
 case store ty x z =>
  cases x<;>simp [iI] at hm
  subst hm
  have e:ev ⟨t,b⟩ z=ev ⟨t,b'⟩ z:=by cases z<;>rfl
  simp only [eP,e]
  exact acp X ty (h _ (by simp))
 case indexAddr ty x z =>
  cases x<;>simp [iI] at hm
  subst hm
  have e:ev ⟨t,b⟩ z=ev ⟨t,b'⟩ z:=by cases z<;>rfl
  simp only [eP,e]
  exact aam X ty (h _ (by simp))
 case entry x =>
  cases x<;>simp [iI] at hm
  subst hm
  exact acq (h _ (by simp))
 case lookup ty x z ok =>
  cases x<;>simp [iI] at hm
  subst hm
  have e:ev ⟨t,b⟩ z=ev ⟨t,b'⟩ z:=by cases z<;>rfl
  simp only [eP,e]
  exact abo X ty ok (h _ (by simp))
 case mapUpdate ty x z z' =>
  cases x<;>simp [iI] at hm
  subst hm
  have e:ev ⟨t,b⟩ z=ev ⟨t,b'⟩ z:=by cases z<;>rfl
  have e':ev ⟨t,b⟩ z'=ev ⟨t,b'⟩ z':=by cases z'<;>rfl
  simp only [eP,e,e']
  exact ND X ty (h _ (by simp))
 case insert ty x z z' =>
  cases x<;>simp [iI] at hm
  subst hm
  have e:ev ⟨t,b⟩ z=ev ⟨t,b'⟩ z:=by cases z<;>rfl
  have e':ev ⟨t,b⟩ z'=ev ⟨t,b'⟩ z':=by cases z'<;>rfl
  simp only [eP,e,e']
  exact ND X ty (h _ (by simp))
 case slice ty x lo hi mx =>
  cases x<;>cases mx<;>simp [iI] at hm
  subst hm
  have e:∀x,ev ⟨t,b⟩ x=ev ⟨t,b'⟩ x:=λx=>by cases x<;>rfl
  have e':ev ⟨t,b⟩=ev ⟨t,b'⟩:=funext e
  simp only [eP,<-e']
  exact acr X l ty _ _ _ (h _ (by simp))
 case call c =>
  simp only [eP]
  cases hc:c.callee with
  | value g=>simp [iI,hc] at hm
  | invoke r m=>rfl
  | builtin bi =>
   simp only [iI,hc,u7] at hm
   subst hm
   simp only
   have e:c.args.toList.map (ev ⟨t,b⟩)=c.args.toList.map (ev ⟨t,b'⟩):=vX λx _=>by cases x<;>rfl
   rw [<-e]
   refine aaW X l bi _ λy hy=>?_
   obtain ⟨x,hx,rfl⟩:=kf.1 hy
   cases x with
   | tmp z=>exact h z (Ey.2 ⟨.tmp z,hx,rfl⟩)
   | const v =>
    intro l hl
    have:fb (Bt v)=some l:=hl
    rw [apl] at this;cases this
   | global g=>intro l hl;cases hl
   | func f=>intro l hl;cases hl
theorem Ny (X:Ctx) (s:St) {ty:TypeId} {z:Operand} {y y':SV} {x:SV} {u:List (Nat × Slot)} (h:(Aw X s.b ty (ev s z) y y').out x u) :
  ∃k sl,fb (ev s z)=some k/\u=[(k,sl)]/\∃x0,s.b[k]?=some x0/\x0.live=.live:=by
 unfold Aw at h
 split at h<;>try exact h.elim
 split at h<;>try exact h.elim
 split at h<;>try exact h.elim
 split at h<;>try exact h.elim
 split at h<;>try exact h.elim
 rename_i k e
 split at h<;>try exact h.elim
 rename_i hs
 split at h<;>try exact h.elim
 split at h<;>try exact h.elim
 obtain ⟨_,_,_,rfl⟩:=h
 exact ⟨k,_,by rw [e];rfl,rfl,_,hs,rfl⟩
theorem abp (X:Ctx) (s:St) (l:Nat) (op:Op) {x:SV} {u:List (Nat × Slot)} (h:(eP X s l op).out x u) {t:Tmp} (hm:ly op=some t) :
  ∀q∈u,iS s t=some q.1\/(ij op=true/\q.1=l):=by
 cases op<;>try (cases hm;done)
 case store ty z z' =>
  cases z<;>simp [ly] at hm
  rename_i t'
  subst hm
  simp only [eP] at h
  unfold Cv at h
  split at h<;>try exact h.elim
  split at h<;>try exact h.elim
  split at h
  ·rename_i k off e
   repeat' split at h
   all_goals try exact h.elim
   obtain rfl:=h.2
   intro q hq;simp at hq;subst hq
   have e':iS s t'=fb (ev s (.tmp t')):=rfl
   left;rw [e',e];rfl
  ·rename_i k sz j off e
   repeat' split at h
   all_goals try exact h.elim
   obtain ⟨_,_,_,rfl⟩:=h
   intro q hq;simp at hq;subst hq
   have e':iS s t'=fb (ev s (.tmp t')):=rfl
   left;rw [e',e];rfl
  ·exact h.elim
 case mapUpdate ty z z' z'' =>
  cases z<;>simp [ly] at hm
  rename_i t'
  subst hm
  obtain ⟨k,sl,h1,rfl,_⟩:=Ny X s h
  intro q hq;simp at hq;subst hq
  exact .inl h1
 case insert ty z z' z'' =>
  cases z<;>simp [ly] at hm
  rename_i t'
  subst hm
  obtain ⟨k,sl,h1,rfl,_⟩:=Ny X s h
  intro q hq;simp at hq;subst hq
  exact .inl h1
 case call c =>
  obtain ⟨callee,args,argTypes⟩:=c
  simp only [eP] at h
  cases callee with
  | value g=>simp [ly] at hm
  | invoke r m=>simp [ly] at hm
  | builtin bi =>
   simp only at h
   have hd:∀{xs:List Operand} {a b:SV},Cq xs=some t->xs.map (ev s)=[a,b]->iS s t=fb a:=by
    intro xs a b h1 h2
    unfold Cq at h1
    split at h1
    ·simp at h1;subst h1
     simp only [lY,N6] at h2
     rw [<-h2.1];rfl
    ·cases h1
   unfold Ck at h
   split at h<;>simp [ly] at hm
   ·split at h<;>try exact h.elim
    rename_i y z II
    have hl:=hd hm (by assumption)
    split at h
    ·unfold AN at h
     repeat' split at h
     all_goals try exact h.elim
     iterate 2
      obtain ⟨_,_,_,rfl⟩:=h
      intro q hq;simp at hq
      rcases hq with rfl|rfl
      ·left;rw [hl];rfl
      ·right;exact ⟨rfl,rfl⟩
     all_goals
      obtain ⟨_,_,_,rfl⟩:=h
      intro q hq;simp at hq;subst hq
      right;exact ⟨rfl,rfl⟩
    ·unfold AI at h
     repeat' split at h
     all_goals try exact h.elim
     obtain ⟨_,_,_,rfl⟩:=h
     intro q hq;simp at hq
     rcases hq with rfl|rfl
     ·left;rw [hl];rfl
     ·right;exact ⟨rfl,rfl⟩
   ·split at h<;>try exact h.elim
    have hl:=hd hm (by assumption)
    split at h<;>try exact h.elim
    unfold CF at h
    repeat' split at h
    all_goals try exact h.elim
    obtain ⟨_,_,_,rfl⟩:=h
    intro q hq;simp at hq;subst hq
    left;rw [hl];rfl
   ·split at h<;>try exact h.elim
    rename_i ty y hta II
    have hl:iS s t=fb y:=by
     unfold Cq at hm
     split at hm
     ·rename_i e1
      simp at hm;subst hm
      rw [e1] at II
      simp only [lY,N6] at II
      rw [<-II.1];rfl
     ·cases hm
    unfold Cw at h
    repeat' split at h
    all_goals try exact h.elim
    obtain ⟨_,_,_,rfl⟩:=h
    intro q hq;simp at hq;subst hq
    left;rw [hl];rfl
   ·exact h.elim
theorem acs (X:Ctx) (s:St) (l:Nat) (op:Op) {x:SV} {u:List (Nat × Slot)} (h:(eP X s l op).out x u) {t:Tmp} (hm:xZ op=some t) :
  ∀k,fb x=some k->iS s t=some k:=by
 have key:∀z,z=ev s (.tmp t)->∀k,fb z=some k->iS s t=some k:=by rintro z rfl k hk;exact hk
 cases op<;>try (cases hm;done)
 case move z =>
  cases z<;>simp [xZ] at hm
  subst hm
  obtain ⟨rfl,_⟩:=h
  exact key _ rfl
 case assign z =>
  cases z<;>simp [xZ] at hm
  subst hm
  obtain ⟨rfl,_⟩:=h
  exact key _ rfl
 case nilCheck z =>
  cases z<;>simp [xZ] at hm
  subst hm
  simp only [eP] at h
  split at h<;>first|exact h.elim|skip
  ·rename_i e;obtain ⟨rfl,_⟩:=h;exact key _ e.symm
  ·rename_i e;obtain ⟨rfl,_⟩:=h;exact key _ e.symm
  ·obtain ⟨rfl,_⟩:=h;intro k hk;cases hk
 case fieldAddr ty z j =>
  cases z<;>simp [xZ] at hm
  subst hm
  rename_i t
  simp only [eP] at h
  generalize hz:ev s (.tmp t)=z at h
  unfold JF at h
  repeat' split at h
  all_goals first|exact h.elim|skip
  all_goals
   obtain ⟨rfl,_⟩:=h
   intro k hk
   exact key _ hz.symm k hk
 case slice ty z lo hi mx =>
  cases z<;>cases mx<;>simp [xZ] at hm
  subst hm
  rename_i t
  have hc:∀a b,clip a b none=false:=λa b=>by unfold clip;split<;>simp_all
  simp only [eP,G0] at h
  generalize hz:ev s (.tmp t)=z at h
  unfold Cx at h
  simp only [hc,Tt,jA,if_false] at h
  repeat' split at h
  all_goals first|exact h.elim|skip
  all_goals
   intro k hk
   first
   | (obtain ⟨_,_,rfl,_⟩:=h;cases hk;done)
   | (obtain ⟨_,rfl,_⟩:=h;first|(cases hk;done)|exact key _ hz.symm k hk)
 case indexAddr ty z ix =>
  cases z<;>simp [xZ] at hm
  subst hm
  rename_i t
  simp only [eP] at h
  generalize hz:ev s (.tmp t)=z at h
  unfold B8 at h
  repeat' split at h
  all_goals first|exact h.elim|skip
  all_goals
   intro k hk
   first
   | (obtain ⟨_,_,rfl,_⟩:=h;first|(cases hk;done)|exact key _ hz.symm k hk)
   | (obtain ⟨rfl,_⟩:=h;first|(cases hk;done)|exact key _ hz.symm k hk)
   | (obtain ⟨_,rfl,_⟩:=h;exact key _ hz.symm k hk)
def EU (ops:List Oper) (lb:List (Oper × Nat)) (s:St) (t:Tmp):List Nat :=
 (match iS s t with|some l=>[l]|none=>[])++(lb.filterMap λp=>match KQ p.1 t&&newVar p.1.op&&ij p.1.op with|true=>some p.2|false=>none)
def ta (ops:List Oper) (lb:List (Oper × Nat)) (s:St) (t:Tmp):List Nat:=match mN ops 8 t with
 | some A=>A.flatMap (EU ops lb s)
 | none=>[]
structure rK (ops:List Oper) (K:Tmp->List Nat) (s:St):Prop where
 ji:∀t A,mN ops 8 t=some A->∀l,iS s t=some l->l∈K t
 cl:∀o∈ops,∀t x A,o.dst=some t->newVar o.op=false->xZ o.op=some x->mN ops 8 t=some A->(∃B,mN ops 8 x=some B)/\∀l∈K x,l∈K t
 Mh:∀p∈ops,∀j∈ops,∀x ys,IH ops p j x ys->qn p.op=true->∀y∈ys,∀l∈K x,l∉K y
def wy (ops:List Oper) (K:Tmp->List Nat) (o:Oper) (l:Nat):Prop:=∀t A,o.dst=some t->newVar o.op=true->ij o.op=true->mN ops 8 t=some A->l∈K t
theorem Oj {ops:List Oper} {lb:List (Oper × Nat)} {s:St}:∀o∈ops,∀t x A,o.dst=some t->newVar o.op=false->xZ o.op=some x->mN ops 8 t=some A ->
  (∃B,mN ops 8 x=some B)/\∀l∈ta ops lb s x,l∈ta ops lb s t:=by
 intro o ho t x A hd hn hx hA
 have hA':uk (mN ops 7) t ops=some A:=hA
 rcases J9 hd ho hA' with h|⟨x',B,h1,h2,h3⟩
 ·rw [h] at hn;cases hn
 ·rw [hx] at h1;cases h1
  have h4:=acn h2
  refine ⟨⟨B,h4⟩,λl hl=>?_⟩
  unfold ta at hl ⊢
  rw [h4] at hl
  rw [hA]
  obtain ⟨y,hy,hl⟩:=Tm.1 hl
  exact Tm.2 ⟨y,h3 y hy,hl⟩
theorem JE {ops:List Oper} {lb:List (Oper × Nat)} {s:St} {t:Tmp} {A:List Tmp} (h:mN ops 8 t=some A) {l:Nat} (hl:l∈EU ops lb s t):l∈ta ops lb s t:=by
 unfold ta
 rw [h]
 exact Tm.2 ⟨t,Oi (show uk (mN ops 7) t ops=some A from h),hl⟩
theorem rK.ne {ops:List Oper} {K:Tmp->List Nat} {s:St} (h:rK ops K s) {p j:Oper} (hp:p∈ops) (hj:j∈ops) {x:Tmp} {ys:List Tmp} (F:IH ops p j x ys) (hw:qn p.op=true) {l:Nat} (hx:iS s x=some l)
  {y:Tmp} (hm:y∈ys):iS s y≠some l:=λhy=>by
 obtain ⟨A,hA⟩:=F.ax
 obtain ⟨B,hB,_⟩:=F.d A hA y hm
 exact h.Mh p hp j hj x ys F hw y hm l (h.ji x A hA l hx) (h.ji y B hB l hy)
def Sep (p j:Oper) (s:St):Prop:=qn p.op=true->vA j.op=false\/∃x ys,ly p.op=some x/\iI j.op=some ys/\∀l,iS s x=some l->∀y∈ys,iS s y≠some l
theorem xS.sep {ops:List Oper} {K:Tmp->List Nat} {s:St} {p j:Oper} (h:xS ops p j) (FA:rK ops K s) (hp:p∈ops) (hj:j∈ops):Sep p j s:=λhw=>by
 rcases h.w1 hw with h1|⟨x,ys,F⟩
 ·exact .inl h1
 ·exact .inr ⟨x,ys,F.p,F.j,λl hl y hy=>FA.ne hp hj F hw hl hy⟩
def Va (b:List Slot) (l:Nat):Prop:=∃z,b[l]?=some z/\z.live=.live
def Shape (b:List Slot) (l:Nat) (op:Op) (u:List (Nat × Slot)):Prop :=
 u=[]\/(ij op=true/\∃y,u=[(l,y)])\/(qn op=true/\∃l0 y,u=[(l0,y)]/\Va b l0) \/
  (qn op=true/\ij op=true/\∃l0 y z,u=[(l0,y),(l,z)]/\Va b l0)
theorem abq (X:Ctx) (s:St) (l:Nat) (op:Op) {x:SV} {u:List (Nat × Slot)} (h:(eP X s l op).out x u):Shape s.b l op u:=by
 have no:∀{A:eW},A.out x u->(∀x' u',A.out x' u'->u'=[])->Shape s.b l op u:=λh1 h2=>.inl (h2 _ _ h1)
 cases op<;>simp only [eP] at h<;>try exact h.elim
 case move y=>exact .inl h.2
 case assign y=>exact .inl h.2
 case pick c y z =>
  unfold Px at h
  split at h<;>try (first|exact h.elim|exact .inl h.2)
  split at h<;>first|exact h.elim|exact .inl h.2
 case alloc e =>
  split at h<;>first|exact h.elim|exact .inr (.inl ⟨rfl,_,h.2⟩)
 case box e y =>
  split at h<;>first|exact h.elim|exact .inr (.inl ⟨rfl,_,h.2⟩)
 case build t ps =>
  unfold O2 at h
  repeat' split at h
  all_goals first|exact h.elim|exact .inl h.2
 case buildSlice t n ps =>
  unfold JD at h
  repeat' split at h
  all_goals first|exact h.elim|exact .inl h.2|exact .inr (.inl ⟨rfl,_,h.2⟩)|(obtain ⟨_,_,_,h⟩:=h;exact .inr (.inl ⟨rfl,_,h⟩))
 case load t y =>
  unfold E6 at h
  repeat' split at h
  all_goals first|exact h.elim|exact .inl h.2|(obtain ⟨_,_,_,h⟩:=h;exact .inl h)
 case store t y z =>
  unfold Cv at h
  repeat' split at h
  all_goals try exact h.elim
  ·rename_i hs _
   exact .inr (.inr (.inl ⟨rfl,_,_,h.2,_,hs,rfl⟩))
  ·rename_i hs _
   obtain ⟨_,_,_,h⟩:=h
   exact .inr (.inr (.inl ⟨rfl,_,_,h,_,hs,rfl⟩))
 case mapUpdate t y z z' =>
  obtain ⟨k,sl,_,rfl,x0,hs,hl⟩:=Ny X s h
  exact .inr (.inr (.inl ⟨rfl,_,_,rfl,_,hs,hl⟩))
 case insert t y z z' =>
  obtain ⟨k,sl,_,rfl,x0,hs,hl⟩:=Ny X s h
  exact .inr (.inr (.inl ⟨rfl,_,_,rfl,_,hs,hl⟩))
 case entry y =>
  unfold ES at h
  repeat' split at h
  all_goals first|exact h.elim|exact .inl h.2
 case lookup t y z ok =>
  unfold EF at h
  repeat' split at h
  all_goals first|exact h.elim|(obtain ⟨_,_,_,h⟩:=h;exact .inl h)
 case makeMap t r =>
  unfold J3 at h
  repeat' split at h
  all_goals first|exact h.elim|exact .inr (.inl ⟨rfl,_,h.2⟩)
 case range t y =>
  unfold Kw at h
  repeat' split at h
  all_goals first|exact h.elim|exact .inr (.inl ⟨rfl,_,h.2⟩)
 case nilCheck y =>
  repeat' split at h
  all_goals first|exact h.elim|exact .inl h.2
 case binOp bo t y z t' =>
  unfold Qj at h
  repeat' split at h
  all_goals try exact h.elim
  all_goals try exact .inl h.2
  all_goals try exact .inl h.2.2
  ·unfold HA at h;split at h<;>first|exact h.elim|exact .inl h.2
  ·unfold Ct at h;split at h<;>first|exact h.elim|exact .inl h.2|exact .inl h.2.2
 case unOp uo t y =>
  unfold Q6 at h
  repeat' split at h
  all_goals first|exact h.elim|exact .inl h.2
 case convert src dst y =>
  unfold Py at h
  repeat' split at h
  all_goals first|exact h.elim|exact .inl h.2
 case makeFunc fn fs cs=>exact .inl h.2
 case makeSlice t n m =>
  unfold JG at h
  repeat' split at h
  all_goals first|exact h.elim|exact .inr (.inl ⟨rfl,_,h.2.2⟩)
 case slice t y lo hi mx =>
  unfold Cx at h
  split at h<;>try exact h.elim
  split at h<;>try exact h.elim
  ·split at h<;>try exact h.elim
   split at h
   ·rename_i hc
    split at h<;>try exact h.elim
    have hm:mx.isSome=true:=by
     simp only [er] at hc
     cases mx with
     | none=>simp [clip] at hc
     | some _=>rfl
    exact .inr (.inl ⟨by cases mx<;>simp at hm;rfl,_,h.2⟩)
   ·repeat' split at h
    all_goals first|exact h.elim|exact .inl h.2.2|(obtain ⟨_,_,_,h⟩:=h;exact .inl h)
  ·repeat' split at h
   all_goals first|exact h.elim|exact .inl h.2.2
  ·repeat' split at h
   all_goals first|exact h.elim|(obtain ⟨_,_,_,h⟩:=h;exact .inl h)
 case fieldAddr t y j =>
  unfold JF at h
  repeat' split at h
  all_goals first|exact h.elim|exact .inl h.2
 case field t y j =>
  unfold O3 at h
  repeat' split at h
  all_goals first|exact h.elim|exact .inl h.2
 case indexAddr t y z =>
  unfold B8 at h
  repeat' split at h
  all_goals first|exact h.elim|exact .inl h.2|exact .inl h.2.2|(obtain ⟨_,_,_,h⟩:=h;exact .inl h)
 case index t y z =>
  unfold O1 at h
  repeat' split at h
  all_goals first|exact h.elim|exact .inl h.2|exact .inl h.2.2|(obtain ⟨_,_,_,h⟩:=h;exact .inl h)
 case extract y j =>
  repeat' split at h
  all_goals first|exact h.elim|exact .inl h.2
 case call c =>
  split at h
  ·split at h<;>try exact h.elim
   unfold HK at h
   repeat' split at h
   all_goals first|exact h.elim|(obtain ⟨_,_,_,h⟩:=h;exact .inl h)
  ·rename_i bi hc
   obtain ⟨callee,args,argTypes⟩:=c
   simp only at hc h
   subst hc
   unfold Ck at h
   split at h<;>try exact h.elim
   ·split at h<;>try exact h.elim
    unfold Fo at h
    repeat' split at h
    all_goals first|exact h.elim|exact .inl h.2|(obtain ⟨_,_,_,h⟩:=h;exact .inl h)
   ·split at h<;>try exact h.elim
    split at h
    ·unfold AN at h
     repeat' split at h
     all_goals try exact h.elim
     iterate 2
      rename_i hs _
      obtain ⟨_,_,_,h⟩:=h
      exact .inr (.inr (.inr ⟨rfl,rfl,_,_,_,h,_,hs,rfl⟩))
     all_goals
      obtain ⟨_,_,_,h⟩:=h
      exact .inr (.inl ⟨rfl,_,h⟩)
    ·unfold AI at h
     split at h<;>try exact h.elim
     split at h<;>try exact h.elim
     rename_i hs
     repeat' split at h
     all_goals try exact h.elim
     obtain ⟨_,_,_,h⟩:=h
     exact .inr (.inr (.inr ⟨rfl,rfl,_,_,_,h,_,hs,rfl⟩))
   ·split at h<;>try exact h.elim
    split at h<;>try exact h.elim
    unfold CF at h
    repeat' split at h
    all_goals try exact h.elim
    rename_i hs _
    obtain ⟨_,_,_,h⟩:=h
    exact .inr (.inr (.inl ⟨rfl,_,_,h,_,hs,rfl⟩))
   ·split at h<;>try exact h.elim
    unfold Cw at h
    repeat' split at h
    all_goals try exact h.elim
    rename_i hs _
    obtain ⟨_,_,_,h⟩:=h
    exact .inr (.inr (.inl ⟨rfl,_,_,h,_,hs,rfl⟩))
   ·split at h<;>try exact h.elim
    all_goals
     (first|unfold IE at h|unfold H4 at h)
     repeat' split at h
     all_goals first|exact h.elim|exact .inl h.2
   ·split at h<;>try exact h.elim
    all_goals
     (first|unfold IE at h|unfold H4 at h)
     repeat' split at h
     all_goals first|exact h.elim|exact .inl h.2
  ·exact h.elim
def oe (g:Option (Tmp × SV)) (t:List SV):List SV :=
 match g with
 | some (i,v)=>t.set i v
 | none=>t
def oK (d:Option Tmp) (x:SV) (t:List SV):List SV :=
 match d with
 | some i=>t.set i x
 | none=>t
theorem T2 (g:Option (Tmp × SV)) (t:List SV) (i:Nat) (h:∀j v,g=some (j,v)->j≠i):(oe g t)[i]?=t[i]?:=by
 unfold oe
 split
 ·rw [eY (h _ _ rfl)]
 ·rfl
theorem Ow (d:Option Tmp) (x:SV) (t:List SV) (i:Nat) (h:∀j,d=some j->j≠i):(oK d x t)[i]?=t[i]?:=by
 unfold oK
 split
 ·rw [eY (h _ rfl)]
 ·rfl
def rP (X:Ctx) (ops:List Oper) (o:Oper) (l:Nat) (s:St) (g:Option (Tmp × SV)) (x:SV) (u:List (Nat × Slot)):Prop :=
 match xY ops o with
 | none=>g=none/\(eP X s l o.op).out x u
 | some (none,_)=>False
 | some (some i,want)=>∃y v,s.t[i]?=some y/\nf y=some v/\g=some (i,v) /\
  match nE want v with
  | true=>(eP X ⟨s.t.set i v,s.b⟩ l o.op).out x u
  | false=>x=.dH []/\u=[]
theorem EI {X:Ctx} {ops:List Oper} {o:Oper} {l:Nat} {s s':St} :
  Out X ops o l s s'↔∃g x u,rP X ops o l s g x u/\s'=⟨oK o.dst x (oe g s.t),m9 s.b u⟩:=by
 unfold Out rP
 rcases hg:xY ops o with _|⟨_|i,want⟩
 ·constructor
  ·rintro ⟨x,u,h,rfl⟩;exact ⟨none,x,u,⟨rfl,h⟩,rfl⟩
  ·rintro ⟨g,x,u,⟨rfl,h⟩,rfl⟩;exact ⟨x,u,h,rfl⟩
 ·simp
 ·constructor
  ·rintro ⟨y,v,h1,h2,h3⟩
   cases hw:nE want v<;>rw [hw] at h3<;>simp only at h3
   ·exact ⟨some (i,v),.dH [],[],⟨y,v,h1,h2,rfl,by rw [hw];exact ⟨rfl,rfl⟩⟩,h3⟩
   ·obtain ⟨x,u,h4,h5⟩:=h3
    exact ⟨some (i,v),x,u,⟨y,v,h1,h2,rfl,by rw [hw];exact h4⟩,h5⟩
  ·rintro ⟨g,x,u,⟨y,v,h1,h2,rfl,h3⟩,h5⟩
   refine ⟨y,v,h1,h2,?_⟩
   cases hw:nE want v<;>rw [hw] at h3<;>simp only at h3 ⊢
   ·obtain ⟨rfl,rfl⟩:=h3;exact h5
   ·exact ⟨x,u,h3,h5⟩
theorem aml (g:Option (Tmp × SV)) (t:List SV):(oe g t).length=t.length:=by unfold oe;split<;>simp
theorem amm (g:Option Tmp) (x:SV) (t:List SV):(oK g x t).length=t.length:=by unfold oK;split<;>simp
theorem abr {y v:SV} (h:nf y=some v):nf v=some v:=by
 unfold nf at h
 split at h<;>simp at h<;>subst h<;>rfl
theorem rP.guard {X:Ctx} {ops:List Oper} {o:Oper} {l:Nat} {s:St} {g:Option (Tmp × SV)} {x:SV} {u:List (Nat × Slot)} (h:rP X ops o l s g x u) :
  (gT ops o=none/\g=none)\/∃i y v,gT ops o=some i/\g=some (i,v)/\s.t[i]?=some y/\nf y=some v:=by
 unfold rP at h
 unfold gT
 split at h
 ·rename_i hg;rw [hg];exact .inl ⟨rfl,h.1⟩
 ·exact h.elim
 ·rename_i i want hg
  obtain ⟨y,v,h1,h2,h3,_⟩:=h
  rw [hg]
  exact .inr ⟨i,y,v,rfl,h3,h1,h2⟩
theorem rP.shape {X:Ctx} {ops:List Oper} {o:Oper} {l:Nat} {s:St} {g:Option (Tmp × SV)} {x:SV} {u:List (Nat × Slot)} (h:rP X ops o l s g x u) :
  Shape s.b l o.op u:=by
 unfold rP at h
 split at h
 ·exact abq X s l o.op h.2
 ·exact h.elim
 ·rename_i i want hg
  obtain ⟨y,v,h1,h2,h3,h4⟩:=h
  split at h4
  ·exact abq X ⟨s.t.set i v,s.b⟩ l o.op h4
  ·exact .inl h4.2
theorem aan {f:Fr} {s:St} {η:Nat->Value} {H:bR} {a:Act} {w:World} (D:Den f s η H a w) (x:Operand) {l:Nat} (h:fb (ev s x)=some l):bg s.b l≠.un:=by
 have hx:=D.ev x
 intro hq
 cases hs:ev s x<;>rw [hs] at h hx<;>simp [fb] at h<;>subst h<;>simp only [rel,hq] at hx
theorem adq {f:Fr} {s:St} {η:Nat->Value} {H:bR} {a:Act} {w:World} (D:Den f s η H a w) {l:Nat} (hu:s.b[l]?=some .un) (y:Slot) :
  ∀(n:Nat) (x:SV) (v:Value),rel η (bg s.b) H x v->jT (s.b.set l y) n x=jT s.b n x
 | 0,x,v,h=>rfl
 | n+1,x,v,h=>by
  have map:∀(cs:List SV) (vs:List Value),bd η (bg s.b) H cs vs->cs.map (jT (s.b.set l y) n)=cs.map (jT s.b n):=by
   intro cs
   induction cs with
   | nil=>intro vs h;rfl
   | cons c r ih =>
    intro vs h
    simp only [bd] at h
    obtain ⟨u,us,h1,h2,h3⟩:=h
    simp only [lY]
    rw [adq D hu y n c u h2,ih us h3]
  have hq:bg s.b l=.un:=by rw [df hu];rfl
  cases x with
  | own k =>
   have hk:l≠k:=by
    rintro rfl
    simp only [rel,hq] at h
   simp only [jT,eY hk]
  | gD k sz m j =>
   have hk:l≠k:=by
    rintro rfl
    simp only [rel,hq] at h
   simp only [jT,eY hk]
  | ptr k off =>
   have hk:l≠k:=by
    rintro rfl
    simp only [rel,hq] at h
   simp only [jT,eY hk]
   split
   ·rename_i e cs hs
    simp only [rel,df hs,Slot.live] at h
    obtain ⟨mf,vs,h3,h4,h5⟩:=D.sl k _ hs
    rw [map _ _ h5]
   ·rfl
  | e9 k =>
   have hk:l≠k:=by
    rintro rfl
    simp only [rel,hq] at h
   simp only [jT,eY hk]
  | fn g cs ds =>
   simp only [jT]
   simp only [rel] at h
   obtain ⟨vs,us,h1,h2,h3⟩:=h
   rw [map _ _ h2,map _ _ h3]
  | agg cs =>
   simp only [jT]
   simp only [rel] at h
   obtain ⟨vs,h1,h2⟩:=h
   rw [map _ _ h2]
  | dH cs =>
   simp only [jT]
   simp only [rel] at h
   obtain ⟨vs,h1,h2⟩:=h
   rw [map _ _ h2]
  | _=>rfl
theorem acu {f:Fr} {s:St} {η:Nat->Value} {H:bR} {a:Act} {w:World} (D:Den f s η H a w) {l:Nat} (hu:s.b[l]?=some .un) (y:Slot) :
  ∀(cs:List SV) (vs:List Value),bd η (bg s.b) H cs vs->cs.map (view (s.b.set l y))=cs.map (view s.b)
 | [],vs,h=>rfl
 | c :: r,vs,h=>by
  simp only [bd] at h
  obtain ⟨u,us,h1,h2,h3⟩:=h
  simp only [lY,view]
  rw [adq D hu y 4 c u h2]
  exact congrArg _ (acu D hu y r us h3)
theorem anl (X:Ctx) {f:Fr} {t:List SV} {b:List Slot} (G:Good f ⟨t,b⟩) {l':Nat} {y:Slot} (nt:b[l']?=some .un) (op:Op) (hd:deep op=true) (l:Nat) :
  eP X ⟨t,b⟩ l op=eP X ⟨t,b.set l' y⟩ l op:=by
 cases op<;>try (cases hd;done)
 case call c =>
  have e:∀x,ev ⟨t,b.set l' y⟩ x=ev ⟨t,b⟩ x:=λx=>by cases x<;>rfl
  obtain ⟨η,H,a,w,D⟩:=G
  simp only [eP]
  cases hc:c.callee with
  | invoke r m=>rfl
  | builtin bi=>simp [deep,hc] at hd
  | value g =>
   have hg:=D.ev g
   have hm:c.args.toList.map (ev ⟨t,b.set l' y⟩)=c.args.toList.map (ev ⟨t,b⟩):=vX λx _=>e x
   simp only [hm,e]
   split
   ·rename_i fid first cap hv
    rw [hv] at hg
    simp only [rel] at hg
    obtain ⟨fs,cs,_,h1,h2⟩:=hg
    have ha:bd η (bg b) H (c.args.toList.map (ev ⟨t,b⟩)) (c.args.toList.map a.eval):=by
     generalize c.args.toList=xs
     induction xs with
     | nil=>simp [bd]
     | cons x r ih=>simp only [lY,bd];exact ⟨_,_,rfl,D.ev x,ih⟩
    simp only [HK]
    rw [acu D nt y _ _ (jG (jG h1 ha) h2)]
   ·rfl
theorem abt (X:Ctx) {f:Fr} {t t':List SV} {b:List Slot} (G:Good f ⟨t,b⟩) {o:Oper} {l l':Nat} {Ma:Op} {u':List (Nat × Slot)} (ej:Shape b l' Ma u')
  (nt:ij Ma=true->b[l']?=some .un) (hw:qn Ma=true->vA o.op=false\/∃ys,iI o.op=some ys/\∀y∈ys,∀q∈u',iS ⟨t,b⟩ y≠some q.1)
  (ht:∀i∈lZ o.op,t[i]?=t'[i]?):eP X ⟨t,b⟩ l o.op=eP X ⟨t',m9 b u'⟩ l o.op:=by
 rw [<-aal X (s:=⟨t,m9 b u'⟩) (s':=⟨t',m9 b u'⟩) l o.op ht rfl]
 rcases ej with rfl|⟨wR,y,rfl⟩|⟨vB,l0,y,rfl,_⟩|⟨vB,_,l0,y,z,rfl,_⟩
 ·rfl
 ·by_cases hr:vA o.op=false
  ·exact Uw X t b _ l o.op hr
  ·cases hd:deep o.op with
   | true=>exact anl X G (nt wR) o.op hd l
   | false =>
    refine apk X t b _ l o.op hd ?_
    intro x _ k hk
    obtain ⟨η,H,a,w,D⟩:=G
    have cT:=aan D x hk
    have:l'≠k:=by
     rintro rfl
     exact cT (by rw [df (nt wR)];rfl)
    simp only [m9]
    rw [eY this]
 ·rcases hw vB with h|⟨z,h1,h2⟩
  ·exact Uw X t b _ l o.op h
  ·refine adp X t b _ l o.op h1 λe he k hk=>?_
   simp only [m9]
   rw [eY (by rintro rfl;exact h2 e he (_,y) (by simp) hk)]
 ·rcases hw vB with h|⟨z',h1,h2⟩
  ·exact Uw X t b _ l o.op h
  ·refine adp X t b _ l o.op h1 λe he k hk=>?_
   simp only [m9]
   rw [eY (by rintro rfl;exact h2 e he (_,z) (by simp) hk),eY (by rintro rfl;exact h2 e he (_,y) (by simp) hk)]
theorem an9 {y v:SV} (h:nf y=some v):fb y=fb v:=by
 unfold nf at h
 split at h<;>simp at h<;>subst h<;>rfl
theorem JI {s:St} {i:Nat} {y v:SV} (h1:s.t[i]?=some y) (h2:nf y=some v) (b:List Slot) (t:Tmp):iS ⟨s.t.set i v,b⟩ t=iS s t:=by
 unfold iS
 simp only
 rw [jb]
 split
 ·rename_i e;subst e
  rw [if_pos (bY.1 h1).1,h1]
  simp [an9 h2]
 ·rfl
theorem abu {t:List SV} {b b':List Slot} {d:Option Tmp} {x:SV} {i:Tmp} (h:∀j,d=some j->j≠i):iS ⟨oK d x t,b⟩ i=iS ⟨t,b'⟩ i:=by
 unfold iS;simp only;rw [Ow _ _ _ _ h]
section
variable {P:Program} {X:Ctx} {f:Fr} {s:St}
theorem Good.guard {y v:SV} {i:Nat} (G:Good f s) (h1:s.t[i]?=some y) (h2:nf y=some v):Good f ⟨s.t.set i v,s.b⟩:=by
 obtain ⟨η,H,a,w,D⟩:=G
 exact ⟨η,H,a,w,(D.guard h1 h2).1⟩
theorem rP.ji {X:Ctx} {ops:List Oper} {o:Oper} {l:Nat} {s:St} {g:Option (Tmp × SV)} {x:SV} {u:List (Nat × Slot)} (h:rP X ops o l s g x u) {t:Tmp} (hm:ly o.op=some t) :
  ∀q∈u,iS s t=some q.1\/(ij o.op=true/\q.1=l):=by
 unfold rP at h
 split at h
 ·exact abp X s l o.op h.2 hm
 ·exact h.elim
 ·obtain ⟨y,v,h1,h2,h3,h4⟩:=h
  split at h4
  ·intro q hq
   have:=abp X _ l o.op h4 hm q hq
   rwa [JI h1 h2] at this
  ·obtain ⟨_,rfl⟩:=h4
   simp
theorem abv (G:Good f s) {ops:List Oper} {o o':Oper} {l l':Nat} (ap:AR ops o' o) (iF:Sep o' o s) (nt:ij o'.op=true->s.b[l']?=some .un)
  {g':Option (Tmp × SV)} {x':SV} {u':List (Nat × Slot)} (h':rP X ops o' l' s g' x' u') (g:Option (Tmp × SV)) (x:SV) (u:List (Nat × Slot)) :
  rP X ops o l s g x u↔rP X ops o l ⟨oK o'.dst x' (oe g' s.t),m9 s.b u'⟩ g x u:=by
 have ej:=h'.shape
 have zN:=h'.guard
 have Lk:=λt hm=>h'.ji (t:=t) hm
 have hw:qn o'.op=true->vA o.op=false\/∃ys,iI o.op=some ys/\∀y∈ys,∀q∈u',iS s y≠some q.1:=by
  intro vB
  rcases iF vB with h|⟨x,ys,h0,h3,h⟩
  ·exact .inl h
  ·refine .inr ⟨ys,h3,λy hy q hq=>?_⟩
   rcases Lk x h0 q hq with h1|⟨h1,h2⟩
   ·exact h _ h1 y hy
   ·obtain ⟨η,H,a,w,D⟩:=G
    intro hk
    refine aan D (.tmp y) (show fb (ev s (.tmp y))=some l' by rw [<-h2];exact hk) ?_
    rw [df (nt h1)];rfl
 have ht:∀i∈lZ o.op,(oK o'.dst x' (oe g' s.t))[i]?=s.t[i]?:=by
  intro i hi
  rw [Ow _ _ _ _ (λj hj e=>ap.d1 j hj (e ▸ hi)),T2]
  intro j v hv e
  subst e
  rcases zN with ⟨_,h⟩|⟨j',y,v',h1,h2,_⟩
  ·rw [h] at hv;cases hv
  ·rw [h2] at hv
   simp at hv
   exact ap.g1 j' h1 (hv.1 ▸ hi)
 unfold rP
 split
 ·rw [abt X (t:=s.t) (b:=s.b) (l:=l) G ej nt hw (λi hi=>(ht i hi).symm)]
 ·exact xC
 ·rename_i i want hg
  have wS:gT ops o=some i:=by simp [gT,hg]
  have hd:∀j,o'.dst=some j->j≠i:=λj hj e=>ap.d2 j hj (e ▸ wS)
  have hi:(oK o'.dst x' (oe g' s.t))[i]?=(oe g' s.t)[i]?:=Ow _ _ _ _ hd
  have key:∀v,(∃y,s.t[i]?=some y/\nf y=some v)↔(∃y,(oK o'.dst x' (oe g' s.t))[i]?=some y/\nf y=some v):=by
   intro v
   rw [hi]
   by_cases oQ:∃v',g'=some (i,v')
   ·obtain ⟨v',e⟩:=oQ
    rcases zN with ⟨_,h⟩|⟨j,y,v2,h1,h2,h3,h4⟩
    ·rw [h] at e;cases e
    ·rw [h2] at e
     simp at e
     obtain ⟨rfl,rfl⟩:=e
     rw [h2]
     have aR:=(bY.1 h3).1
     simp only [oe,qM aR]
     constructor
     ·rintro ⟨y',e1,e2⟩
      rw [h3] at e1;simp at e1;subst e1
      rw [h4] at e2;simp at e2;subst e2
      exact ⟨_,rfl,abr h4⟩
     ·rintro ⟨y',e1,e2⟩
      simp at e1;subst e1
      rw [abr h4] at e2;simp at e2;subst e2
      exact ⟨y,h3,h4⟩
   ·rw [T2]
    intro j v' hv e
    subst e
    exact oQ ⟨v',hv⟩
  have H6:∀v,(∃y,s.t[i]?=some y/\nf y=some v)->eP X ⟨s.t.set i v,s.b⟩ l o.op=eP X ⟨(oK o'.dst x' (oe g' s.t)).set i v,m9 s.b u'⟩ l o.op:=by
   rintro v ⟨y,h1,h2⟩
   refine abt X (t:=s.t.set i v) (b:=s.b) (l:=l) (G.guard h1 h2) ej nt (λvB=>(hw vB).imp id λ⟨ys',a1,a2⟩=>⟨ys',a1,λy' Bv q hq=>by rw [JI h1 h2];exact a2 y' Bv q hq⟩) (λk hk=>?_)
   by_cases Yd:i=k
   ·subst Yd
    have aR:=(bY.1 h1).1
    rw [qM aR,qM (by rw [amm,aml];exact aR)]
   ·rw [eY Yd,eY Yd,ht k hk]
  constructor
  ·rintro ⟨y,v,h1,h2,h3,h4⟩
   obtain ⟨y',e1,e2⟩:=(key v).1 ⟨y,h1,h2⟩
   refine ⟨y',v,e1,e2,h3,?_⟩
   rw [<-H6 v ⟨y,h1,h2⟩]
   exact h4
  ·rintro ⟨y',v,e1,e2,h3,h4⟩
   obtain ⟨y,h1,h2⟩:=(key v).2 ⟨y',e1,e2⟩
   refine ⟨y,v,h1,h2,h3,?_⟩
   rw [H6 v ⟨y,h1,h2⟩]
   exact h4
theorem aao (l:Nat) (x:Slot):∀(u:List (Nat × Slot)) (b:List Slot),(∀p∈u,p.1≠l)->m9 (b.set l x) u=(m9 b u).set l x
 | [],b,_=>rfl
 | (k,y) :: u,b,h=>by
  simp only [m9]
  rw [Tv _ _ (h (k,y) (by simp)).symm]
  exact aao l x u _ λp hp=>h p (by simp [hp])
theorem aae:∀(u v:List (Nat × Slot)) (b:List Slot),(∀p∈u,∀q∈v,p.1≠q.1)->m9 (m9 b u) v=m9 (m9 b v) u
 | [],v,b,_=>rfl
 | (l,x) :: u,v,b,h=>by
  simp only [m9]
  rw [aae u v _ λp hp q hq=>h p (by simp [hp]) q hq]
  rw [aao l x v b λq hq=>(h (l,x) (by simp) q hq).symm]
theorem TM (t:List SV) (i j:Nat) (x y:SV) (h:i≠j):(t.set i x).set j y=(t.set j y).set i x:=Tv _ _ h
theorem swap (G:Good f s) {ops:List Oper} {p j:Oper} {lp lj:Nat} (ap:AR ops p j) (sp:Sep p j s) (sj:Sep j p s) (q9:ij p.op=true->s.b[lp]?=some .un) (Ye:ij j.op=true->s.b[lj]?=some .un)
  (cT:ij p.op=true->ij j.op=true->lp≠lj) {s1 s2:St} (h1:Out X ops p lp s s1) (h2:Out X ops j lj s1 s2):∃IJ,Out X ops j lj s IJ/\Out X ops p lp IJ s2:=by
 rw [EI] at h1 h2
 obtain ⟨gp,xp,up,hp,rfl⟩:=h1
 obtain ⟨gj,xj,uj,hj,rfl⟩:=h2
 have F8:=(abv G ap sp q9 hp gj xj uj).2 hj
 have qW:=(abv G ap.symm sj Ye F8 gp xp up).1 hp
 refine ⟨_,EI.2 ⟨gj,xj,uj,F8,rfl⟩,EI.2 ⟨gp,xp,up,qW,?_⟩⟩
 congr 1
 ·
  simp only
  have hgp:=hp.guard
  have hgj:=F8.guard
  have c1:∀(d:Option Tmp) (x:SV) (g:Option (Tmp × SV)) (t:List SV),(∀i k v,d=some i->g=some (k,v)->i≠k)->oe g (oK d x t)=oK d x (oe g t):=by
   intro d x g t h
   unfold oe oK
   cases d<;>cases g<;>try rfl
   rename_i i kv
   obtain ⟨k,v⟩:=kv
   exact TM _ _ _ _ _ (h i k v rfl rfl)
  have c2:∀(d e:Option Tmp) (x y:SV) (t:List SV),(∀i k,d=some i->e=some k->i≠k)->oK e y (oK d x t)=oK d x (oK e y t):=by
   intro d e x y t h
   unfold oK
   cases d<;>cases e<;>try rfl
   rename_i i k
   exact TM _ _ _ _ _ (h i k rfl rfl)
  have c3:oe gj (oe gp s.t)=oe gp (oe gj s.t):=by
   rcases hgp with ⟨_,rfl⟩|⟨i,y,v,a1,rfl,a3,a4⟩
   ·rfl
   rcases hgj with ⟨_,rfl⟩|⟨k,y',v',b1,rfl,b3,b4⟩
   ·rfl
   by_cases e:i=k
   ·subst e
    rw [a3] at b3;simp at b3;subst b3
    rw [a4] at b4;simp at b4;subst b4
    rfl
   ·exact TM _ _ _ _ _ e
  rw [c1 p.dst xp gj _ (by
   rintro i k v hd hg rfl
   rcases hgj with ⟨_,h⟩|⟨k,y',v',b1,h,_⟩
   ·rw [h] at hg;cases hg
   ·rw [h] at hg;simp at hg;exact ap.d2 i hd (by rw [b1,hg.1]))]
  rw [c2 p.dst j.dst xp xj _ (by rintro i k hd he rfl;exact ap.d3 i hd he)]
  rw [c1 j.dst xj gp _ (by
   rintro i k v hd hg rfl
   rcases hgp with ⟨_,h⟩|⟨k,y',v',b1,h,_⟩
   ·rw [h] at hg;cases hg
   ·rw [h] at hg;simp at hg;exact ap.e2 i hd (by rw [b1,hg.1]))]
  rw [c3]
 ·
  refine aae up uj s.b ?_
  have iF:=hp.shape
  have hsj:=F8.shape
  have fx:∀{b:List Slot} {l:Nat} {op:Op} {u:List (Nat × Slot)},Shape b l op u->∀q∈u,(q.1=l/\ij op=true)\/(qn op=true/\Va b q.1):=by
   rintro b l op u (rfl|⟨h,y,rfl⟩|⟨h,l0,y,rfl,h2⟩|⟨h,h3,l0,y,z,rfl,h2⟩) q hq
   ·simp at hq
   ·simp at hq;subst hq;exact .inl ⟨rfl,h⟩
   ·simp at hq;subst hq;exact .inr ⟨h,h2⟩
   ·simp at hq
    rcases hq with rfl|rfl
    ·exact .inr ⟨h,h2⟩
    ·exact .inl ⟨rfl,h3⟩
  intro q hq r hr e
  rcases fx iF q hq with ⟨e1,a1⟩|⟨w1,z1,l1,l1'⟩<;>rcases fx hsj r hr with ⟨e2,a2⟩|⟨w2,z2,l2,l2'⟩
  ·exact cT a1 a2 (by rw [<-e1,<-e2,e])
  ·rw [<-e,e1,q9 a1] at l2
   simp at l2;subst l2;cases l2'
  ·rw [e,e2,Ye a2] at l1
   simp at l1;subst l1;cases l1'
  ·have rd:∀{o:Oper},qn o.op=true->vA o.op=true:=by
    intro o w
    cases hjj:o.op<;>rw [hjj] at w<;>simp [qn,ack] at w<;>rfl
   rcases sp w1 with h|⟨x,ys,h,sL,atn⟩
   ·rw [rd w2] at h;cases h
   rcases sj w2 with h'|⟨x',ys',h',aAU,_⟩
   ·rw [rd w1] at h';cases h'
   have live:∀{o:Oper} {l k:Nat},(ij o.op=true->s.b[l]?=some .un)->ij o.op=true/\k=l->s.b[k]?=some z1\/s.b[k]?=some z2->False:=by
    rintro o l k hu ⟨ha,rfl⟩ (h|h)
    ·rw [hu ha] at h;simp at h;subst h;cases l1'
    ·rw [hu ha] at h;simp at h;subst h;cases l2'
   rcases hp.ji h q hq with a1|a1
   ·rcases F8.ji h' r hr with a2|a2
    ·exact atn _ a1 x' (acm h' sL) (by rw [a2,e])
    ·exact live Ye a2 (.inr l2)
   ·exact live q9 a1 (.inl l1)
theorem aaX {o:Oper} {l:Nat} {x:SV} {u:List (Nat × Slot)} (h:(eP X s l o.op).out x u) (hn:newVar o.op=true) (hR:∀f S,X.sp f=some S->∀a,LF (S.res a)):∀k,fb x=some k->ij o.op=true/\k=l:=by
 cases ho:o.op<;>rw [ho] at hn h<;>try (cases hn;done)
 case call c =>
  obtain ⟨callee,args,argTypes⟩:=c
  cases callee with
  | value g =>
   simp only [eP] at h
   split at h<;>try exact h.elim
   unfold HK at h
   split at h<;>try exact h.elim
   rename_i S hS
   intro k hk
   exfalso
   have:∃a,x=S.res a:=by
    split at h
    ·obtain ⟨a,_,h1,_⟩:=h;exact ⟨a,h1⟩
    ·obtain ⟨a,_,h1,_⟩:=h;exact ⟨a,h1⟩
   obtain ⟨a,rfl⟩:=this
   have h1:=hR _ _ hS a
   cases hq:S.res a<;>rw [hq] at h1 hk<;>simp [LF,fb] at h1 hk
  | invoke r m=>cases hn
  | builtin bi =>
   cases bi<;>try (cases hn;done)
   simp only [eP,Ck] at h
   split at h<;>try exact h.elim
   split at h
   all_goals
    first|unfold AN at h|unfold AI at h
    repeat' split at h
    all_goals try exact h.elim
    all_goals
     obtain ⟨_,_,rfl,_⟩:=h
     intro k hk
     exact ⟨rfl,by simpa [fb] using hk.symm⟩
 case buildSlice t n ps =>
  simp only [eP] at h
  unfold JD at h
  repeat' split at h
  all_goals try exact h.elim
  all_goals
   intro k hk
   first|obtain ⟨rfl,_⟩:=h|obtain ⟨_,_,rfl,_⟩:=h
   first|(cases hk;done)|exact ⟨rfl,by simpa [fb] using hk.symm⟩
 case makeSlice t n m =>
  simp only [eP] at h
  unfold JG at h
  repeat' split at h
  all_goals try exact h.elim
  all_goals
   intro k hk
   obtain ⟨_,rfl,_⟩:=h
   exact ⟨rfl,by simpa [fb] using hk.symm⟩
 case makeMap t r =>
  simp only [eP] at h
  unfold J3 at h
  repeat' split at h
  all_goals try exact h.elim
  all_goals
   intro k hk
   obtain ⟨rfl,_⟩:=h
   exact ⟨rfl,by simpa [fb] using hk.symm⟩
 case range t y =>
  simp only [eP] at h
  unfold Kw at h
  repeat' split at h
  all_goals try exact h.elim
  all_goals
   intro k hk
   obtain ⟨rfl,_⟩:=h
   exact ⟨rfl,by simpa [fb] using hk.symm⟩
 all_goals
  simp only [eP] at h
  split at h<;>try exact h.elim
  intro k hk
  obtain ⟨rfl,_⟩:=h
  exact ⟨rfl,by simpa [fb] using hk.symm⟩
theorem rK.out {ops:List Oper} {o:Oper} {l:Nat} {s1:St} {Ks:Tmp->List Nat} (FA:rK ops Ks s) (mo:o∈ops) (hl:wy ops Ks o l) (hR:∀f S,X.sp f=some S->∀a,LF (S.res a)) (h:Out X ops o l s s1):rK ops Ks s1:=by
 rw [EI] at h
 obtain ⟨g,x,u,hr,rfl⟩:=h
 refine ⟨λt A ht k hk=>?_,FA.cl,FA.Mh⟩
 have Ql:(∀j,o.dst=some j->j≠t)->k∈Ks t:=by
  intro hd
  rw [abu (b':=s.b) hd] at hk
  rcases hr.guard with ⟨_,rfl⟩|⟨i,y,v,_,rfl,h3,h4⟩
  ·exact FA.ji t A ht k hk
  ·rw [show iS ⟨oe (some (i,v)) s.t,s.b⟩ t=iS s t from JI h3 h4 s.b t] at hk
   exact FA.ji t A ht k hk
 by_cases hd:o.dst=some t
 ·have hx:fb x=some k:=by
   unfold iS at hk
   simp only [hd,oK] at hk
   by_cases aR:t < (oe g s.t).length
   ·rw [qM aR] at hk;exact hk
   ·rw [mA (by rw [kO];exact Nat.le_of_not_lt aR)] at hk;cases hk
  cases hn:newVar o.op with
  | true =>
   have db:ij o.op=true/\k=l:=by
    unfold rP at hr
    split at hr
    ·exact aaX hr.2 hn hR k hx
    ·exact hr.elim
    ·obtain ⟨y,v,h1,h2,h3,h4⟩:=hr
     split at h4
     ·exact aaX h4 hn hR k hx
     ·rw [h4.1] at hx;cases hx
   rw [db.2];exact hl t A hd hn db.1 ht
  | false =>
   rcases J9 hd mo (show uk (mN ops 7) t ops=some A from ht) with h|⟨z,B,h1,h2,h3⟩
   ·rw [h] at hn;cases hn
   obtain ⟨⟨B',hB'⟩,CT⟩:=FA.cl o mo t z A hd hn h1 ht
   refine CT k (FA.ji z B' hB' k ?_)
   unfold rP at hr
   split at hr
   ·exact acs X s l o.op hr.2 h1 k hx
   ·exact hr.elim
   ·obtain ⟨y,v,g1,g2,g3,g4⟩:=hr
    split at g4
    ·have:=acs X _ l o.op g4 h1 k hx
     rwa [JI g1 g2] at this
    ·rw [g4.1] at hx;cases hx
 ·exact Ql λj hj e=>hd (by rw [hj,e])
theorem aql {ops:List Oper} {o:Oper} {l k:Nat} {s1:St} (h:Out X ops o l s s1) (hk:s.b[k]?=some .un) (cT:ij o.op=true->l≠k):s1.b[k]?=some .un:=by
 rw [EI] at h
 obtain ⟨g,x,u,hr,rfl⟩:=h
 simp only
 rcases hr.shape with rfl|⟨h,y,rfl⟩|⟨h,l0,y,rfl,z,h2,Dl⟩|⟨h,h3,l0,y,z,rfl,z',h2,Dl⟩
 ·exact hk
 ·simp only [m9];rw [eY (cT h)];exact hk
 ·simp only [m9]
  rw [eY (by rintro rfl;rw [hk] at h2;simp at h2;subst h2;cases Dl)];exact hk
 ·simp only [m9]
  rw [eY (cT h3),eY (by rintro rfl;rw [hk] at h2;simp at h2;subst h2;cases Dl)];exact hk
end
end Go.Vc
