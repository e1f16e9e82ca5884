import Derived.Test.YthnhbemmlfaihaaGreatT8
set_option linter.unusedVariables false
set_option linter.unusedSimpArgs false
set_option maxRecDepth 10000
set_option maxHeartbeats 64000000
namespace Go.Vc
open Go
def lN (op:Op):List Tmp:=op.operands.toList.filterMap λ|.tmp t=>some t|_=>none
def gT (ops:List Oper) (o:Oper):Option Tmp:=(xx ops o).bind (·.1)
def uZ:Op->Bool
 | .load ..|.store ..|.indexAddr ..|.slice ..|.call _|.lookup ..|.mapUpdate ..|.insert ..|.entry _=>true
 | _=>false
def abj:Op->Bool
 | .call c=>match c.callee with
  | .builtin .append=>true
  | .builtin .copy=>true
  | .builtin .clear=>true
  | _=>false
 | _=>false
def pS:Op->Bool
 | .store ..|.mapUpdate ..|.insert ..=>true
 | op=>abj op
def deep:Op->Bool
 | .call c=>match c.callee with
  | .value _=>true
  | _=>false
 | _=>false
def tmpsOf (xs:List Operand):List Tmp:=xs.filterMap λ|.tmp t=>some t|_=>none
def BS:List Operand->Option Tmp
 | .tmp t :: _=>some t
 | _=>none
def kZ:Op->Option Tmp
 | .store _ x _=>match x with|.tmp t=>some t|_=>none
 | .mapUpdate _ x _ _=>match x with|.tmp t=>some t|_=>none
 | .insert _ x _ _=>match x with|.tmp t=>some t|_=>none
 | .call c=>match c.callee with
  | .builtin .append=>BS c.args.toList
  | .builtin .copy=>BS c.args.toList
  | .builtin .clear=>BS c.args.toList
  | _=>none
 | _=>none
def iA:Op->Option (List Tmp)
 | .load _ x=>match x with|.tmp t=>some [t]|_=>none
 | .store _ x _=>match x with|.tmp t=>some [t]|_=>none
 | .lookup _ x _ _=>match x with|.tmp t=>some [t]|_=>none
 | .entry x=>match x with|.tmp t=>some [t]|_=>none
 | .mapUpdate _ x _ _=>match x with|.tmp t=>some [t]|_=>none
 | .insert _ x _ _=>match x with|.tmp t=>some [t]|_=>none
 | .indexAddr _ x _=>match x with|.tmp t=>some [t]|_=>none
 | .slice _ x _ _ mx=>match x,mx with|.tmp t,none=>some [t]|_,_=>none
 | .call c=>match c.callee with
  | .builtin _=>some (tmpsOf c.args.toList)
  | _=>none
 | _=>none
theorem ak9 {xs:List Operand} {t:Tmp} (h:BS xs=some t):t∈tmpsOf xs:=by
 unfold BS at h
 split at h
 ·simp at h;subst h;simp [tmpsOf]
 ·cases h
theorem abk {op:Op} {t:Tmp} {ys:List Tmp} (h:kZ op=some t) (h':iA op=some ys):t∈ys:=by
 cases op<;>try (cases h;done)
 case store ty x z=>cases x<;>simp [kZ] at h;subst h;simp [iA] at h';subst h';simp
 case mapUpdate ty x y z=>cases x<;>simp [kZ] at h;subst h;simp [iA] at h';subst h';simp
 case insert ty x y z=>cases x<;>simp [kZ] at h;subst h;simp [iA] at h';subst h';simp
 case call c =>
  cases hc:c.callee with
  | value g=>simp [kZ,hc] at h
  | invoke r m=>simp [kZ,hc] at h
  | builtin b =>
   simp only [iA,hc,uE] at h'
   subst h'
   cases b<;>simp [kZ,hc] at h<;>exact ak9 h
def newVar:Op->Bool
 | .alloc _|.box ..|.buildSlice ..|.makeSlice ..|.makeMap ..|.range ..=>true
 | .call c=>match c.callee with
  | .builtin .append=>true
  | .value _=>true
  | _=>false
 | _=>false
def xy:Op->Option Tmp
 | .fieldAddr _ x _=>match x with|.tmp t=>some t|_=>none
 | .indexAddr _ x _=>match x with|.tmp t=>some t|_=>none
 | .nilCheck x=>match x with|.tmp t=>some t|_=>none
 | .move x=>match x with|.tmp t=>some t|_=>none
 | .assign x=>match x with|.tmp t=>some t|_=>none
 | .slice _ x _ _ mx=>match x,mx with|.tmp t,none=>some t|_,_=>none
 | _=>none
def J9 (o:Oper) (t:Tmp):Bool:=match o.dst with|some d=>Nat.beq d t|none=>false
theorem SK {o:Oper} {t:Tmp}:J9 o t=true↔o.dst=some t:=by
 unfold J9
 cases o.dst with
 | none=>simp
 | some d=>simp only [uE];exact ⟨oR,λh=>h ▸ Nat.beq_refl d⟩
def tH (
     r:Tmp->Option (List Tmp)) (t:Tmp):List Oper->Option (List Tmp)
 | []=>some [t]
 | o :: os=>match J9 o t with
  | false=>tH r t os
  | true=>match newVar o.op with
   | true=>tH r t os
   | false=>match xy o.op with
    | none=>none
    | some x=>match r x,tH r t os with
     | some a,some b=>some (a++b)
     | _,_=>none
def mw (ops:List Oper):Nat->Tmp->Option (List Tmp)
 | 0,_=>none
 | n+1,t=>tH (mw ops n) t ops
theorem Nv {r r':Tmp->Option (List Tmp)} (h:∀x a,r x=some a->r' x=some a) {t:Tmp}:∀{os:List Oper} {A:List Tmp},tH r t os=some A->tH r' t os=some A
 | [],A,e=>e
 | o :: os,A,e=>by
  unfold tH at e ⊢
  split at e
  ·exact Nv h e
  ·split at e
   ·exact Nv h e
   ·split at e
    ·cases e
    ·split at e
     ·rename_i a b h1 h2
      simp only [h _ _ h1,Nv h h2]
      exact e
     ·cases e
theorem abl {ops:List Oper}:∀{n:Nat} {t:Tmp} {A:List Tmp},mw ops n t=some A->mw ops (n+1) t=some A
 | 0,t,A,h=>by cases h
 | n+1,t,A,h=>Nv (λ_ _=>abl) h
theorem Nw {r:Tmp->Option (List Tmp)} {t:Tmp}:∀{os:List Oper} {A:List Tmp},tH r t os=some A->t∈A
 | [],A,e=>by cases e;simp
 | o :: os,A,e=>by
  unfold tH at e
  split at e
  ·exact Nw e
  ·split at e
   ·exact Nw e
   ·split at e
    ·cases e
    ·split at e
     ·rename_i a b h1 h2
      cases e
      exact DO _ (Nw h2)
     ·cases e
theorem Jx {r:Tmp->Option (List Tmp)} {t:Tmp} {o:Oper} (hd:o.dst=some t):∀{os:List Oper} {A:List Tmp},o∈os->tH r t os=some A ->
  newVar o.op=true\/∃x B,xy o.op=some x/\r x=some B/\∀y∈B,y∈A
 | [],A,h,_=>by cases h
 | o' :: os,A,h,e=>by
  unfold tH at e
  split at e
  ·rename_i h1
   rcases er.1 h with rfl|h
   ·rw [SK.2 hd] at h1;cases h1
   ·exact Jx hd h e
  ·split at e
   ·rename_i h1 h2
    rcases er.1 h with rfl|h
    ·exact .inl h2
    ·exact Jx hd h e
   ·split at e
    ·cases e
    ·rename_i x h3
     split at e
     ·rename_i a b h4 h5
      cases e
      rcases er.1 h with rfl|h
      ·exact .inr ⟨x,a,h3,h4,λy hy=>BF _ hy⟩
      ·rcases Jx hd h h5 with h6|⟨x,B,h6,h7,h8⟩
       ·exact .inl h6
       ·exact .inr ⟨x,B,h6,h7,λy hy=>DO _ (h8 y hy)⟩
     ·cases e
def xz:List Nat->List Nat->Bool
 | [],_=>true
 | a :: r,l=>(l.all λb=>!Nat.beq a b)&&xz r l
theorem aci:∀{x y:List Nat},xz x y=true->∀l∈x,l∉y
 | [],_,_,l,hl=>by cases hl
 | a :: r,y,h,l,hl=>by
  simp only [xz,ei] at h
  rcases er.1 hl with rfl|hl
  ·intro hy
   have:=mN.1 h.1 l hy
   simp at this
  ·exact aci h.2 l hl
def Ei (ops:List Oper) (A:List Tmp):List Tmp->Bool
 | []=>true
 | y :: r=>(match mw ops 8 y with
  | some B=>xz A B
  | none=>false)&&Ei ops A r
def Ql (ops:List Oper) (p j:Oper):Bool :=
 match kZ p.op,iA j.op with
 | some x,some ys=>match mw ops 8 x with
  | some A=>Ei ops A ys
  | none=>false
 | _,_=>false
structure HV (ops:List Oper) (p j:Oper) (x:Tmp) (ys:List Tmp):Prop where
 p:kZ p.op=some x
 j:iA j.op=some ys
 ax:∃A,mw ops 8 x=some A
 d:∀A,mw ops 8 x=some A->∀y∈ys,∃B,mw ops 8 y=some B/\xz A B=true
theorem aap {ops:List Oper} {A:List Tmp}:∀{ys:List Tmp},Ei ops A ys=true->∀y∈ys,∃B,mw ops 8 y=some B/\xz A B=true
 | [],_,y,hy=>by cases hy
 | z :: r,h,y,hy=>by
  simp only [Ei,ei] at h
  rcases er.1 hy with rfl|hy
  ·have h1:=h.1
   split at h1
   ·rename_i B hB;exact ⟨B,hB,h1⟩
   ·cases h1
  ·exact aap h.2 y hy
theorem abm {ops:List Oper} {p j:Oper} (h:Ql ops p j=true):∃x ys,HV ops p j x ys:=by
 unfold Ql at h
 split at h
 ·rename_i x ys h1 h2
  split at h
  ·rename_i A h3
   exact ⟨x,ys,h1,h2,⟨A,h3⟩,λA' e1=>by rw [h3] at e1;cases e1;exact aap h⟩
  ·cases h
 ·cases h
def Oi (ops:List Oper) (p j:Oper):Bool :=
 (match p.dst with|some d=>!(lN j.op).contains d&&gT ops j != some d&&j.dst != some d|none=>true) &&
 (match j.dst with|some d=>!(lN p.op).contains d&&gT ops p != some d|none=>true) &&
 (match gT ops p with|some g=>!(lN j.op).contains g|none=>true) &&
 (match gT ops j with|some g=>!(lN p.op).contains g|none=>true)
def indep (ops:List Oper) (p j:Oper):Bool :=
 Oi ops p j&&((!(pS p.op&&uZ j.op)||Ql ops p j)&&(!(pS j.op&&uZ p.op)||Ql ops j p))
structure Al (ops:List Oper) (p j:Oper):Prop where
 d1:∀d,p.dst=some d->d∉lN j.op
 d2:∀d,p.dst=some d->gT ops j≠some d
 d3:∀d,p.dst=some d->j.dst≠some d
 e1:∀d,j.dst=some d->d∉lN p.op
 e2:∀d,j.dst=some d->gT ops p≠some d
 g1:∀g,gT ops p=some g->g∉lN j.op
 g2:∀g,gT ops j=some g->g∉lN p.op
structure xo (ops:List Oper) (p j:Oper):Prop where
 t:Al ops p j
 w1:pS p.op=true->uZ j.op=false\/∃x ys,HV ops p j x ys
 w2:pS j.op=true->uZ p.op=false\/∃x ys,HV ops j p x ys
theorem ZE {ops:List Oper} {p j:Oper} (h:Oi ops p j=true):Al ops p j:=by
 unfold Oi at h
 simp only [ei] at h
 obtain ⟨⟨⟨h1,h2⟩,h3⟩,h4⟩:=h
 constructor
 ·intro d hd;rw [hd] at h1;simp at h1;exact h1.1.1
 ·intro d hd;rw [hd] at h1;simp at h1;exact h1.1.2
 ·intro d hd;rw [hd] at h1;simp at h1;exact h1.2
 ·intro d hd;rw [hd] at h2;simp at h2;exact h2.1
 ·intro d hd;rw [hd] at h2;simp at h2;exact h2.2
 ·intro g hg;rw [hg] at h3;simpa using h3
 ·intro g hg;rw [hg] at h4;simpa using h4
theorem M5 {ops:List Oper} {p j:Oper} (h:indep ops p j=true):xo ops p j:=by
 unfold indep at h
 simp only [ei,vA,pI,Bool.and_eq_false_iff] at h
 obtain ⟨h0,h5,h6⟩:=h
 refine ⟨ZE h0,?_,?_⟩
 ·intro hw
  rcases h5 with (h5|h5)|h
  ·rw [hw] at h5;cases h5
  ·exact .inl h5
  ·exact .inr (abm h)
 ·intro hw
  rcases h6 with (h6|h6)|h
  ·rw [hw] at h6;cases h6
  ·exact .inl h6
  ·exact .inr (abm h)
theorem Al.symm {ops:List Oper} {p j:Oper} (h:Al ops p j):Al ops j p :=
 ⟨h.e1,h.e2,λd hd e=>h.d3 d e hd,h.d1,h.d2,h.g2,h.g1⟩
theorem xo.symm {ops:List Oper} {p j:Oper} (h:xo ops p j):xo ops j p:=⟨h.t.symm,h.w2,h.w1⟩
theorem amT {s s':St} {x:Operand} (h:∀t,x=.tmp t->s.t[t]?=s'.t[t]?):ev s x=ev s' x:=by
 cases x with
 | tmp t=>simp only [ev,h t rfl]
 | _=>rfl
theorem MZ {c:Call} {x:Operand} (h:x∈c.args.toList):x∈c.operands:=by
 unfold Call.operands
 exact Array.mem_append.2 (.inr (Array.mem_toList_iff.1 h))
theorem Zm (X:Ctx) {s s':St} (l:Nat) (op:Op) (h:∀t∈lN op,s.t[t]?=s'.t[t]?) (hb:s.b=s'.b):eL X s l op=eL X s' l op:=by
 have e:∀x∈op.operands,ev s x=ev s' x:=λx hx=>amT λt ht=>h t (by
  subst ht
  exact DR.2 ⟨.tmp t,by simpa using hx,rfl⟩)
 have aex:∀ps:Array (Nat × Operand),(∀x∈ps.map (·.2),ev s x=ev s' x)->(ps.toList.map λp=>(p.1,ev s p.2))=(ps.toList.map λp=>(p.1,ev s' p.2)):=λps hp =>
  xa λp hm=>by rw [hp p.2 (Array.mem_map.2 ⟨p,by simpa using hm,rfl⟩)]
 cases op<;>simp only [Op.operands] at e<;>simp only [eL,<-hb]
 case call c =>
  have ha:c.args.toList.map (ev s)=c.args.toList.map (ev s'):=xa λx hx=>e x (MZ hx)
  cases hc:c.callee with
  | value g =>
   have hg:ev s g=ev s' g:=e g (by simp [Call.operands,hc])
   simp only [hg,ha]
  | invoke r m=>rfl
  | builtin b=>simp only [ha]
 case build t ps=>rw [aex ps (λx hx=>e x (by simpa using hx))]
 case buildSlice t n ps=>rw [aex ps (λx hx=>e x (by simpa using hx))]
 case makeFunc fn first captured =>
  rw [xa (l:=first.toList) (f:=ev s) (g:=ev s') λx hx=>e x (by simp [<-Array.mem_toList_iff,hx]),
   xa (l:=captured.toList) (f:=ev s) (g:=ev s') λx hx=>e x (by simp [<-Array.mem_toList_iff,hx])]
 case slice t x lo hi mx=>cases lo<;>cases hi<;>cases mx<;>simp_all
 all_goals first|rfl|(simp_all;done)
def eX:SV->Option Nat
 | .ptr l _=>some l
 | .gZ l _ _ _=>some l
 | .own l=>some l
 | .gI l _ _ _=>some l
 | .eV l=>some l
 | .iq l=>some l
 | _=>none
theorem acj (X:Ctx) {b b':List Slot} (t:TypeId) {x:SV} (h:∀l,eX x=some l->b[l]?=b'[l]?):Es X b t x=Es X b' t x:=by
 unfold Es
 cases x<;>simp only [eX] at h<;>first|rfl|(simp only [h _ rfl])
theorem abn (X:Ctx) {b b':List Slot} (t:TypeId) {x y:SV} (h:∀l,eX x=some l->b[l]?=b'[l]?):BY X b t x y=BY X b' t x y:=by
 unfold BY
 cases x<;>simp only [eX] at h<;>first|rfl|(simp only [h _ rfl])
theorem aaq (X:Ctx) {b b':List Slot} (t:TypeId) {x y:SV} (ok:Bool) (h:∀l,eX x=some l->b[l]?=b'[l]?):D7 X b t x y ok=D7 X b' t x y ok:=by
 unfold D7
 cases x<;>simp only [eX] at h<;>first|rfl|(simp only [h _ rfl])
theorem abo {b b':List Slot} {x:SV} (h:∀l,eX x=some l->b[l]?=b'[l]?):Eh b x=Eh b' x:=by
 unfold Eh
 cases x with
 | ptr l off =>
  cases off with
  | zero=>simp only [h l rfl]
  | succ n=>rfl
 | _=>rfl
theorem MV (X:Ctx) {b b':List Slot} (t:TypeId) {x y z:SV} (h:∀l,eX x=some l->b[l]?=b'[l]?):zV X b t x y z=zV X b' t x y z:=by
 unfold zV
 cases x<;>simp only [eX] at h<;>first|rfl|(simp only [h _ rfl])
theorem Zn (X:Ctx) {b b':List Slot} (t:TypeId) {x y:SV} (h:∀l,eX x=some l->b[l]?=b'[l]?):Bx X b t x y=Bx X b' t x y:=by
 unfold Bx
 cases x<;>simp only [eX] at h<;>first|rfl|(simp only [h _ rfl])
theorem ao5 (X:Ctx) {b b':List Slot} (t:TypeId) {x:SV} (h:∀l,eX x=some l->b[l]?=b'[l]?):EJ X b t x=EJ X b' t x:=by
 unfold EJ
 cases X.tt t with
 | none=>rfl
 | some i =>
  simp only
  cases i.d<;>cases x<;>simp only [eX] at h<;>first|rfl|(simp only [h _ rfl])
theorem aey {b b':List Slot} {x:SV} (h:∀l,eX x=some l->b[l]?=b'[l]?):top b x=top b' x:=by
 cases x<;>simp only [eX] at h<;>first|rfl|(simp only [top,h _ rfl])
theorem al9 (X:Ctx) {b b':List Slot} (l:Nat) (t:TypeId) {x y:SV} (h:∀l,eX x=some l->b[l]?=b'[l]?) (h':∀l,eX y=some l->b[l]?=b'[l]?) :
  Ag X b l t x y=Ag X b' l t x y:=by
 unfold Ag
 rw [aey h']
 by_cases hl:∃l,eX x=some l
 ·obtain ⟨l0,hl⟩:=hl
  have hb:=h l0 hl
  cases x<;>simp only [eX] at hl<;>first|(cases hl;done)|(cases hl;simp only [hb])
 ·cases x<;>first|exact absurd ⟨_,rfl⟩ hl|rfl|((repeat' (first|rfl|split))<;>simp_all;done)
theorem alw (X:Ctx) {b b':List Slot} (l:Nat) (t t':TypeId) {x y:SV} (h:∀l,eX x=some l->b[l]?=b'[l]?):Ac X b l t t' x y=Ac X b' l t t' x y:=by
 unfold Ac
 cases x<;>simp only [eX] at h<;>first|rfl|(simp only [h _ rfl])
theorem an6 (X:Ctx) {b b':List Slot} (t:TypeId) {x y:SV} (h:∀l,eX x=some l->b[l]?=b'[l]?) (h':∀l,eX y=some l->b[l]?=b'[l]?) :
  B9 X b t x y=B9 X b' t x y:=by
 unfold B9
 rw [aey h']
 cases X.tt t with
 | none=>rfl
 | some i =>
  simp only
  cases i.d<;>try rfl
  rename_i e
  simp only
  cases X.tt e with
  | none=>cases x<;>rfl
  | some k=>cases x<;>simp only [eX] at h<;>first|rfl|simp only [h _ rfl]
theorem abp (X:Ctx) {b b':List Slot} (l:Nat) (t:TypeId) {x:SV} (lo hi mx:Option SV) (h:∀l,eX x=some l->b[l]?=b'[l]?) :
  B1 X b l t x lo hi mx=B1 X b' l t x lo hi mx:=by
 unfold B1
 cases X.tt t with
 | none=>rfl
 | some i =>
  simp only
  cases i.d<;>try rfl
  rename_i e
  simp only
  cases X.tt e with
  | none=>rfl
  | some k=>cases mx<;>cases x<;>simp only [eX] at h<;>first|rfl|simp only [h _ rfl]
theorem amU (X:Ctx) {b b':List Slot} (t:TypeId) {x:SV} (h:∀l,eX x=some l->b[l]?=b'[l]?):BZ X b t x=BZ X b' t x:=by
 unfold BZ
 cases X.tt t with
 | none=>rfl
 | some i =>
  simp only
  cases i.d<;>try rfl
  rename_i e
  simp only
  cases X.tt e with
  | none=>rfl
  | some k=>cases x<;>simp only [eX] at h<;>first|rfl|simp only [h _ rfl]
theorem ZY (X:Ctx) {b b':List Slot} (l:Nat) (bi:Builtin) (ts:List TypeId) {xs:List SV} (h:∀x∈xs,∀l,eX x=some l->b[l]?=b'[l]?) :
  BL X b l bi ts xs=BL X b' l bi ts xs:=by
 unfold BL
 cases bi<;>try rfl
 ·simp only
  split
  ·rw [al9 X l _ (h _ (by simp)) (h _ (by simp)),alw X l _ _ (h _ (by simp))]
  ·rfl
 ·simp only
  split
  ·rw [amU X _ (h _ (by simp))]
  ·rfl
 ·simp only
  split
  ·rw [an6 X _ (h _ (by simp)) (h _ (by simp))]
  ·rfl
 ·simp only
  split
  ·rw [ao5 X _ (h _ (by simp))]
  ·rfl
theorem TA (X:Ctx) (t:List SV) (b b':List Slot) (l:Nat) (op:Op) (h:uZ op=false):eL X ⟨t,b⟩ l op=eL X ⟨t,b'⟩ l op:=by
 cases op<;>simp [uZ] at h<;>rfl
theorem an7 (X:Ctx) (t:List SV) (b b':List Slot) (l:Nat) (op:Op) (hd:deep op=false) (h:∀x∈op.operands,∀l,eX (ev ⟨t,b⟩ x)=some l->b[l]?=b'[l]?) :
  eL X ⟨t,b⟩ l op=eL X ⟨t,b'⟩ l op:=by
 cases op<;>try rfl
 case load ty x=>exact acj X ty (h x (by simp [Op.operands]))
 case store ty x y=>exact abn X ty (h x (by simp [Op.operands]))
 case indexAddr ty x y=>exact Zn X ty (h x (by simp [Op.operands]))
 case lookup ty x y ok=>exact aaq X ty ok (h x (by simp [Op.operands]))
 case entry x=>exact abo (h x (by simp [Op.operands]))
 case mapUpdate ty x y z=>exact MV X ty (h x (by simp [Op.operands]))
 case insert ty x y z=>exact MV X ty (h x (by simp [Op.operands]))
 case slice ty x lo hi mx =>
  have e:∀x,ev ⟨t,b⟩ x=ev ⟨t,b'⟩ x:=λx=>by cases x<;>rfl
  have e':ev ⟨t,b⟩=ev ⟨t,b'⟩:=funext e
  simp only [eL,<-e']
  exact abp X l ty _ _ _ (h x (by simp [Op.operands]))
 case call c =>
  simp only [eL]
  cases hc:c.callee with
  | value g=>simp [deep,hc] at hd
  | invoke r m=>rfl
  | builtin bi =>
   simp only
   have e:c.args.toList.map (ev ⟨t,b⟩)=c.args.toList.map (ev ⟨t,b'⟩):=xa λx _=>by cases x<;>rfl
   rw [<-e]
   refine ZY X l bi _ λy hy=>?_
   obtain ⟨x,hx,rfl⟩:=j3.1 hy
   exact h x (by simp only [Op.operands];exact MZ hx)
def iK (s:St) (t:Tmp):Option Nat:=eX ((s.t[t]?).getD .any)
theorem an8 (v:Value):eX (AW v)=none:=by
 have h1:∀v,eX (mb v)=none:=λv=>by unfold mb;split<;>rfl
 unfold AW
 split
 ·rfl
 ·exact h1 _
theorem ack (X:Ctx) (t:List SV) (b b':List Slot) (l:Nat) (op:Op) {ys:List Tmp} (hm:iA op=some ys) (h:∀y∈ys,∀l,iK ⟨t,b⟩ y=some l->b[l]?=b'[l]?) :
  eL X ⟨t,b⟩ l op=eL X ⟨t,b'⟩ l op:=by
 cases op<;>try (cases hm;done)
 case load ty x =>
  cases x<;>simp [iA] at hm
  subst hm
  exact acj X ty (h _ (by simp))
 case store ty x z =>
  cases x<;>simp [iA] at hm
  subst hm
  have e:ev ⟨t,b⟩ z=ev ⟨t,b'⟩ z:=by cases z<;>rfl
  simp only [eL,e]
  exact abn X ty (h _ (by simp))
 case indexAddr ty x z =>
  cases x<;>simp [iA] at hm
  subst hm
  have e:ev ⟨t,b⟩ z=ev ⟨t,b'⟩ z:=by cases z<;>rfl
  simp only [eL,e]
  exact Zn X ty (h _ (by simp))
 case entry x =>
  cases x<;>simp [iA] at hm
  subst hm
  exact abo (h _ (by simp))
 case lookup ty x z ok =>
  cases x<;>simp [iA] at hm
  subst hm
  have e:ev ⟨t,b⟩ z=ev ⟨t,b'⟩ z:=by cases z<;>rfl
  simp only [eL,e]
  exact aaq X ty ok (h _ (by simp))
 case mapUpdate ty x z z' =>
  cases x<;>simp [iA] at hm
  subst hm
  have e:ev ⟨t,b⟩ z=ev ⟨t,b'⟩ z:=by cases z<;>rfl
  have e':ev ⟨t,b⟩ z'=ev ⟨t,b'⟩ z':=by cases z'<;>rfl
  simp only [eL,e,e']
  exact MV X ty (h _ (by simp))
 case insert ty x z z' =>
  cases x<;>simp [iA] at hm
  subst hm
  have e:ev ⟨t,b⟩ z=ev ⟨t,b'⟩ z:=by cases z<;>rfl
  have e':ev ⟨t,b⟩ z'=ev ⟨t,b'⟩ z':=by cases z'<;>rfl
  simp only [eL,e,e']
  exact MV X ty (h _ (by simp))
 case slice ty x lo hi mx =>
  cases x<;>cases mx<;>simp [iA] at hm
  subst hm
  have e:∀x,ev ⟨t,b⟩ x=ev ⟨t,b'⟩ x:=λx=>by cases x<;>rfl
  have e':ev ⟨t,b⟩=ev ⟨t,b'⟩:=funext e
  simp only [eL,<-e']
  exact abp X l ty _ _ _ (h _ (by simp))
 case call c =>
  simp only [eL]
  cases hc:c.callee with
  | value g=>simp [iA,hc] at hm
  | invoke r m=>rfl
  | builtin bi =>
   simp only [iA,hc,uE] at hm
   subst hm
   simp only
   have e:c.args.toList.map (ev ⟨t,b⟩)=c.args.toList.map (ev ⟨t,b'⟩):=xa λx _=>by cases x<;>rfl
   rw [<-e]
   refine ZY X l bi _ λy hy=>?_
   obtain ⟨x,hx,rfl⟩:=j3.1 hy
   cases x with
   | tmp z=>exact h z (DR.2 ⟨.tmp z,hx,rfl⟩)
   | const v =>
    intro l hl
    have:eX (AW v)=some l:=hl
    rw [an8] at this;cases this
   | global g=>intro l hl;cases hl
   | func f=>intro l hl;cases hl
theorem MR (X:Ctx) (s:St) {ty:TypeId} {z:Operand} {y y':SV} {x:SV} {u:List (Nat × Slot)} (h:(zV X s.b ty (ev s z) y y').out x u) :
  ∃k sl,eX (ev s z)=some k/\u=[(k,sl)]/\∃x0,s.b[k]?=some x0/\x0.live=.live:=by
 unfold zV at h
 split at h<;>try exact h.elim
 split at h<;>try exact h.elim
 split at h<;>try exact h.elim
 split at h<;>try exact h.elim
 split at h<;>try exact h.elim
 rename_i k e
 split at h<;>try exact h.elim
 rename_i hs
 split at h<;>try exact h.elim
 split at h<;>try exact h.elim
 obtain ⟨_,_,_,rfl⟩:=h
 exact ⟨k,_,by rw [e];rfl,rfl,_,hs,rfl⟩
theorem aar (X:Ctx) (s:St) (l:Nat) (op:Op) {x:SV} {u:List (Nat × Slot)} (h:(eL X s l op).out x u) {t:Tmp} (hm:kZ op=some t) :
  ∀q∈u,iK s t=some q.1\/(gY op=true/\q.1=l):=by
 cases op<;>try (cases hm;done)
 case store ty z z' =>
  cases z<;>simp [kZ] at hm
  rename_i t'
  subst hm
  simp only [eL] at h
  unfold BY at h
  split at h<;>try exact h.elim
  split at h<;>try exact h.elim
  split at h
  ·rename_i k off e
   repeat' split at h
   all_goals try exact h.elim
   obtain rfl:=h.2
   intro q hq;simp at hq;subst hq
   have e':iK s t'=eX (ev s (.tmp t')):=rfl
   left;rw [e',e];rfl
  ·rename_i k sz j off e
   repeat' split at h
   all_goals try exact h.elim
   obtain ⟨_,_,_,rfl⟩:=h
   intro q hq;simp at hq;subst hq
   have e':iK s t'=eX (ev s (.tmp t')):=rfl
   left;rw [e',e];rfl
  ·exact h.elim
 case mapUpdate ty z z' z'' =>
  cases z<;>simp [kZ] at hm
  rename_i t'
  subst hm
  obtain ⟨k,sl,h1,rfl,_⟩:=MR X s h
  intro q hq;simp at hq;subst hq
  exact .inl h1
 case insert ty z z' z'' =>
  cases z<;>simp [kZ] at hm
  rename_i t'
  subst hm
  obtain ⟨k,sl,h1,rfl,_⟩:=MR X s h
  intro q hq;simp at hq;subst hq
  exact .inl h1
 case call c =>
  obtain ⟨callee,args,argTypes⟩:=c
  simp only [eL] at h
  cases callee with
  | value g=>simp [kZ] at hm
  | invoke r m=>simp [kZ] at hm
  | builtin bi =>
   simp only at h
   have hd:∀{xs:List Operand} {a b:SV},BS xs=some t->xs.map (ev s)=[a,b]->iK s t=eX a:=by
    intro xs a b h1 h2
    unfold BS at h1
    split at h1
    ·simp at h1;subst h1
     simp only [lM,Nl] at h2
     rw [<-h2.1];rfl
    ·cases h1
   unfold BL at h
   split at h<;>simp [kZ] at hm
   ·split at h<;>try exact h.elim
    rename_i y z HW
    have hl:=hd hm (by assumption)
    split at h
    ·unfold Ag at h
     repeat' split at h
     all_goals try exact h.elim
     ·obtain ⟨_,_,_,rfl⟩:=h
      intro q hq;simp at hq
      rcases hq with rfl|rfl
      ·left;rw [hl];rfl
      ·right;exact ⟨rfl,rfl⟩
     all_goals
      obtain ⟨_,_,_,rfl⟩:=h
      intro q hq;simp at hq;subst hq
      right;exact ⟨rfl,rfl⟩
    ·unfold Ac at h
     repeat' split at h
     all_goals try exact h.elim
     obtain ⟨_,_,_,rfl⟩:=h
     intro q hq;simp at hq
     rcases hq with rfl|rfl
     ·left;rw [hl];rfl
     ·right;exact ⟨rfl,rfl⟩
   ·split at h<;>try exact h.elim
    have hl:=hd hm (by assumption)
    split at h<;>try exact h.elim
    unfold B9 at h
    repeat' split at h
    all_goals try exact h.elim
    obtain ⟨_,_,_,rfl⟩:=h
    intro q hq;simp at hq;subst hq
    left;rw [hl];rfl
   ·split at h<;>try exact h.elim
    rename_i ty y hta HW
    have hl:iK s t=eX y:=by
     unfold BS at hm
     split at hm
     ·rename_i e1
      simp at hm;subst hm
      rw [e1] at HW
      simp only [lM,Nl] at HW
      rw [<-HW.1];rfl
     ·cases hm
    unfold BZ at h
    repeat' split at h
    all_goals try exact h.elim
    obtain ⟨_,_,_,rfl⟩:=h
    intro q hq;simp at hq;subst hq
    left;rw [hl];rfl
   ·exact h.elim
theorem abq (X:Ctx) (s:St) (l:Nat) (op:Op) {x:SV} {u:List (Nat × Slot)} (h:(eL X s l op).out x u) {t:Tmp} (hm:xy op=some t) :
  ∀k,eX x=some k->iK s t=some k:=by
 have key:∀z,z=ev s (.tmp t)->∀k,eX z=some k->iK s t=some k:=by rintro z rfl k hk;exact hk
 cases op<;>try (cases hm;done)
 case move z =>
  cases z<;>simp [xy] at hm
  subst hm
  obtain ⟨rfl,_⟩:=h
  exact key _ rfl
 case assign z =>
  cases z<;>simp [xy] at hm
  subst hm
  obtain ⟨rfl,_⟩:=h
  exact key _ rfl
 case nilCheck z =>
  cases z<;>simp [xy] at hm
  subst hm
  simp only [eL] at h
  split at h<;>first|exact h.elim|skip
  ·rename_i e;obtain ⟨rfl,_⟩:=h;exact key _ e.symm
  ·rename_i e;obtain ⟨rfl,_⟩:=h;exact key _ e.symm
  ·obtain ⟨rfl,_⟩:=h;intro k hk;cases hk
 case fieldAddr ty z j =>
  cases z<;>simp [xy] at hm
  subst hm
  rename_i t
  simp only [eL] at h
  generalize hz:ev s (.tmp t)=z at h
  unfold I2 at h
  repeat' split at h
  all_goals first|exact h.elim|skip
  all_goals
   obtain ⟨rfl,_⟩:=h
   intro k hk
   exact key _ hz.symm k hk
 case slice ty z lo hi mx =>
  cases z<;>cases mx<;>simp [xy] at hm
  subst hm
  rename_i t
  have hc:∀a b,clip a b none=false:=λa b=>by unfold clip;split<;>simp_all
  simp only [eL,Gg] at h
  generalize hz:ev s (.tmp t)=z at h
  unfold B1 at h
  simp only [hc,Sy,jr,if_false] at h
  repeat' split at h
  all_goals first|exact h.elim|skip
  all_goals
   intro k hk
   first
   | (obtain ⟨_,_,rfl,_⟩:=h;cases hk;done)
   | (obtain ⟨_,rfl,_⟩:=h;first|(cases hk;done)|exact key _ hz.symm k hk)
 case indexAddr ty z ix =>
  cases z<;>simp [xy] at hm
  subst hm
  rename_i t
  simp only [eL] at h
  generalize hz:ev s (.tmp t)=z at h
  unfold Bx at h
  repeat' split at h
  all_goals first|exact h.elim|skip
  all_goals
   intro k hk
   first
   | (obtain ⟨_,_,rfl,_⟩:=h;first|(cases hk;done)|exact key _ hz.symm k hk)
   | (obtain ⟨rfl,_⟩:=h;first|(cases hk;done)|exact key _ hz.symm k hk)
   | (obtain ⟨_,rfl,_⟩:=h;exact key _ hz.symm k hk)
def Ej (ops:List Oper) (lb:List (Oper × Nat)) (s:St) (t:Tmp):List Nat :=
 (match iK s t with|some l=>[l]|none=>[])++(lb.filterMap λp=>match J9 p.1 t&&newVar p.1.op&&gY p.1.op with|true=>some p.2|false=>none)
def sF (ops:List Oper) (lb:List (Oper × Nat)) (s:St) (t:Tmp):List Nat:=match mw ops 8 t with
 | some A=>A.flatMap (Ej ops lb s)
 | none=>[]
structure q_ (ops:List Oper) (K:Tmp->List Nat) (s:St):Prop where
 i_:∀t A,mw ops 8 t=some A->∀l,iK s t=some l->l∈K t
 cl:∀o∈ops,∀t x A,o.dst=some t->newVar o.op=false->xy o.op=some x->mw ops 8 t=some A->(∃B,mw ops 8 x=some B)/\∀l∈K x,l∈K t
 Lt:∀p∈ops,∀j∈ops,∀x ys,HV ops p j x ys->pS p.op=true->∀y∈ys,∀l∈K x,l∉K y
def vO (ops:List Oper) (K:Tmp->List Nat) (o:Oper) (l:Nat):Prop:=∀t A,o.dst=some t->newVar o.op=true->gY o.op=true->mw ops 8 t=some A->l∈K t
theorem Nx {ops:List Oper} {lb:List (Oper × Nat)} {s:St}:∀o∈ops,∀t x A,o.dst=some t->newVar o.op=false->xy o.op=some x->mw ops 8 t=some A ->
  (∃B,mw ops 8 x=some B)/\∀l∈sF ops lb s x,l∈sF ops lb s t:=by
 intro o ho t x A hd hn hx hA
 have hA':tH (mw ops 7) t ops=some A:=hA
 rcases Jx hd ho hA' with h|⟨x',B,h1,h2,h3⟩
 ·rw [h] at hn;cases hn
 ·rw [hx] at h1;cases h1
  have h4:=abl h2
  refine ⟨⟨B,h4⟩,λl hl=>?_⟩
  unfold sF at hl ⊢
  rw [h4] at hl
  rw [hA]
  obtain ⟨y,hy,hl⟩:=Sq.1 hl
  exact Sq.2 ⟨y,h3 y hy,hl⟩
theorem IZ {ops:List Oper} {lb:List (Oper × Nat)} {s:St} {t:Tmp} {A:List Tmp} (h:mw ops 8 t=some A) {l:Nat} (hl:l∈Ej ops lb s t):l∈sF ops lb s t:=by
 unfold sF
 rw [h]
 exact Sq.2 ⟨t,Nw (show tH (mw ops 7) t ops=some A from h),hl⟩
theorem q_.ne {ops:List Oper} {K:Tmp->List Nat} {s:St} (h:q_ ops K s) {p j:Oper} (hp:p∈ops) (hj:j∈ops) {x:Tmp} {ys:List Tmp} (F:HV ops p j x ys) (hw:pS p.op=true) {l:Nat} (hx:iK s x=some l)
  {y:Tmp} (hm:y∈ys):iK s y≠some l:=λhy=>by
 obtain ⟨A,hA⟩:=F.ax
 obtain ⟨B,hB,_⟩:=F.d A hA y hm
 exact h.Lt p hp j hj x ys F hw y hm l (h.i_ x A hA l hx) (h.i_ y B hB l hy)
def Sep (p j:Oper) (s:St):Prop:=pS p.op=true->uZ j.op=false\/∃x ys,kZ p.op=some x/\iA j.op=some ys/\∀l,iK s x=some l->∀y∈ys,iK s y≠some l
theorem xo.sep {ops:List Oper} {K:Tmp->List Nat} {s:St} {p j:Oper} (h:xo ops p j) (FA:q_ ops K s) (hp:p∈ops) (hj:j∈ops):Sep p j s:=λhw=>by
 rcases h.w1 hw with h1|⟨x,ys,F⟩
 ·exact .inl h1
 ·exact .inr ⟨x,ys,F.p,F.j,λl hl y hy=>FA.ne hp hj F hw hl hy⟩
def Uh (b:List Slot) (l:Nat):Prop:=∃z,b[l]?=some z/\z.live=.live
def Shape (b:List Slot) (l:Nat) (op:Op) (u:List (Nat × Slot)):Prop :=
 u=[]\/(gY op=true/\∃y,u=[(l,y)])\/(pS op=true/\∃l0 y,u=[(l0,y)]/\Uh b l0) \/
  (pS op=true/\gY op=true/\∃l0 y z,u=[(l0,y),(l,z)]/\Uh b l0)
theorem aas (X:Ctx) (s:St) (l:Nat) (op:Op) {x:SV} {u:List (Nat × Slot)} (h:(eL X s l op).out x u):Shape s.b l op u:=by
 have no:∀{A:eS},A.out x u->(∀x' u',A.out x' u'->u'=[])->Shape s.b l op u:=λh1 h2=>.inl (h2 _ _ h1)
 cases op<;>simp only [eL] at h<;>try exact h.elim
 case move y=>exact .inl h.2
 case assign y=>exact .inl h.2
 case pick c y z =>
  unfold OM at h
  split at h<;>try (first|exact h.elim|exact .inl h.2)
  split at h<;>first|exact h.elim|exact .inl h.2
 case alloc e =>
  split at h<;>first|exact h.elim|exact .inr (.inl ⟨rfl,_,h.2⟩)
 case box e y =>
  split at h<;>first|exact h.elim|exact .inr (.inl ⟨rfl,_,h.2⟩)
 case build t ps =>
  unfold Oc at h
  repeat' split at h
  all_goals first|exact h.elim|exact .inl h.2
 case buildSlice t n ps =>
  unfold IX at h
  repeat' split at h
  all_goals first|exact h.elim|exact .inl h.2|exact .inr (.inl ⟨rfl,_,h.2⟩)|(obtain ⟨_,_,_,h⟩:=h;exact .inr (.inl ⟨rfl,_,h⟩))
 case load t y =>
  unfold Es at h
  repeat' split at h
  all_goals first|exact h.elim|exact .inl h.2|(obtain ⟨_,_,_,h⟩:=h;exact .inl h)
 case store t y z =>
  unfold BY at h
  repeat' split at h
  all_goals try exact h.elim
  ·rename_i hs _
   exact .inr (.inr (.inl ⟨rfl,_,_,h.2,_,hs,rfl⟩))
  ·rename_i hs _
   obtain ⟨_,_,_,h⟩:=h
   exact .inr (.inr (.inl ⟨rfl,_,_,h,_,hs,rfl⟩))
 case mapUpdate t y z z' =>
  obtain ⟨k,sl,_,rfl,x0,hs,hl⟩:=MR X s h
  exact .inr (.inr (.inl ⟨rfl,_,_,rfl,_,hs,hl⟩))
 case insert t y z z' =>
  obtain ⟨k,sl,_,rfl,x0,hs,hl⟩:=MR X s h
  exact .inr (.inr (.inl ⟨rfl,_,_,rfl,_,hs,hl⟩))
 case entry y =>
  unfold Eh at h
  repeat' split at h
  all_goals first|exact h.elim|exact .inl h.2
 case lookup t y z ok =>
  unfold D7 at h
  repeat' split at h
  all_goals first|exact h.elim|(obtain ⟨_,_,_,h⟩:=h;exact .inl h)
 case makeMap t r =>
  unfold Jr at h
  repeat' split at h
  all_goals first|exact h.elim|exact .inr (.inl ⟨rfl,_,h.2⟩)
 case range t y =>
  unfold JR at h
  repeat' split at h
  all_goals first|exact h.elim|exact .inr (.inl ⟨rfl,_,h.2⟩)
 case nilCheck y =>
  repeat' split at h
  all_goals first|exact h.elim|exact .inl h.2
 case binOp bo t y z t' =>
  unfold Ps at h
  repeat' split at h
  all_goals try exact h.elim
  all_goals try exact .inl h.2
  all_goals try exact .inl h.2.2
  ·unfold GX at h;split at h<;>first|exact h.elim|exact .inl h.2
  ·unfold BW at h;split at h<;>first|exact h.elim|exact .inl h.2|exact .inl h.2.2
 case unOp uo t y =>
  unfold Qh at h
  repeat' split at h
  all_goals first|exact h.elim|exact .inl h.2
 case convert src dst y =>
  unfold ON at h
  repeat' split at h
  all_goals first|exact h.elim|exact .inl h.2
 case makeFunc fn fs cs=>exact .inl h.2
 case makeSlice t n m =>
  unfold I4 at h
  repeat' split at h
  all_goals first|exact h.elim|exact .inr (.inl ⟨rfl,_,h.2.2⟩)
 case slice t y lo hi mx =>
  unfold B1 at h
  split at h<;>try exact h.elim
  split at h<;>try exact h.elim
  ·split at h<;>try exact h.elim
   split at h
   ·rename_i hc
    split at h<;>try exact h.elim
    have hm:mx.isSome=true:=by
     simp only [ei] at hc
     cases mx with
     | none=>simp [clip] at hc
     | some _=>rfl
    exact .inr (.inl ⟨by cases mx<;>simp at hm;rfl,_,h.2⟩)
   ·repeat' split at h
    all_goals first|exact h.elim|exact .inl h.2.2|(obtain ⟨_,_,_,h⟩:=h;exact .inl h)
  ·repeat' split at h
   all_goals first|exact h.elim|exact .inl h.2.2
  ·repeat' split at h
   all_goals first|exact h.elim|(obtain ⟨_,_,_,h⟩:=h;exact .inl h)
 case fieldAddr t y j =>
  unfold I2 at h
  repeat' split at h
  all_goals first|exact h.elim|exact .inl h.2
 case field t y j =>
  unfold Od at h
  repeat' split at h
  all_goals first|exact h.elim|exact .inl h.2
 case indexAddr t y z =>
  unfold Bx at h
  repeat' split at h
  all_goals first|exact h.elim|exact .inl h.2|exact .inl h.2.2|(obtain ⟨_,_,_,h⟩:=h;exact .inl h)
 case index t y z =>
  unfold Ob at h
  repeat' split at h
  all_goals first|exact h.elim|exact .inl h.2|exact .inl h.2.2|(obtain ⟨_,_,_,h⟩:=h;exact .inl h)
 case extract y j =>
  repeat' split at h
  all_goals first|exact h.elim|exact .inl h.2
 case call c =>
  split at h
  ·split at h<;>try exact h.elim
   unfold G7 at h
   repeat' split at h
   all_goals first|exact h.elim|(obtain ⟨_,_,_,h⟩:=h;exact .inl h)
  ·rename_i bi hc
   obtain ⟨callee,args,argTypes⟩:=c
   simp only at hc h
   subst hc
   unfold BL at h
   split at h<;>try exact h.elim
   ·split at h<;>try exact h.elim
    unfold EJ at h
    repeat' split at h
    all_goals first|exact h.elim|exact .inl h.2|(obtain ⟨_,_,_,h⟩:=h;exact .inl h)
   ·split at h<;>try exact h.elim
    split at h
    ·unfold Ag at h
     repeat' split at h
     all_goals try exact h.elim
     ·rename_i hs _
      obtain ⟨_,_,_,h⟩:=h
      exact .inr (.inr (.inr ⟨rfl,rfl,_,_,_,h,_,hs,rfl⟩))
     all_goals
      obtain ⟨_,_,_,h⟩:=h
      exact .inr (.inl ⟨rfl,_,h⟩)
    ·unfold Ac at h
     split at h<;>try exact h.elim
     split at h<;>try exact h.elim
     rename_i hs
     repeat' split at h
     all_goals try exact h.elim
     obtain ⟨_,_,_,h⟩:=h
     exact .inr (.inr (.inr ⟨rfl,rfl,_,_,_,h,_,hs,rfl⟩))
   ·split at h<;>try exact h.elim
    split at h<;>try exact h.elim
    unfold B9 at h
    repeat' split at h
    all_goals try exact h.elim
    rename_i hs _
    obtain ⟨_,_,_,h⟩:=h
    exact .inr (.inr (.inl ⟨rfl,_,_,h,_,hs,rfl⟩))
   ·split at h<;>try exact h.elim
    unfold BZ at h
    repeat' split at h
    all_goals try exact h.elim
    rename_i hs _
    obtain ⟨_,_,_,h⟩:=h
    exact .inr (.inr (.inl ⟨rfl,_,_,h,_,hs,rfl⟩))
   ·split at h<;>try exact h.elim
    all_goals
     (first|unfold HS at h|unfold Hm at h)
     repeat' split at h
     all_goals first|exact h.elim|exact .inl h.2
   ·split at h<;>try exact h.elim
    all_goals
     (first|unfold HS at h|unfold Hm at h)
     repeat' split at h
     all_goals first|exact h.elim|exact .inl h.2
  ·exact h.elim
end Go.Vc
