import Derived.Test.YthnhbemmlfaihaaGreatO5
set_option linter.unusedVariables false
set_option linter.unusedSimpArgs false
set_option maxRecDepth 10000
set_option maxHeartbeats 64000000
namespace Go.Vc
open Go
def kJ (op:Op):List Tmp:=op.operands.toList.filterMap λ|.tmp t=>some t|_=>none
def gT (ops:List Oper) (o:Oper):Option Tmp:=(vN ops o).bind (·.1)
def tw:Op->Bool
 | .load ..|.store ..|.indexAddr ..|.slice ..|.call _|.lookup ..|.mapUpdate ..|.insert ..|.entry _=>true
 | _=>false
def X1:Op->Bool
 | .call c=>match c.callee with
  | .builtin .append=>true
  | .builtin .copy=>true
  | .builtin .clear=>true
  | _=>false
 | _=>false
def oI:Op->Bool
 | .store ..|.mapUpdate ..|.insert ..=>true
 | op=>X1 op
def deep:Op->Bool
 | .call c=>match c.callee with
  | .value _=>true
  | _=>false
 | _=>false
def tmpsOf (xs:List Operand):List Tmp:=xs.filterMap λ|.tmp t=>some t|_=>none
def zX:List Operand->Option Tmp
 | .tmp t :: _=>some t
 | _=>none
def ko:Op->Option Tmp
 | .store _ x _=>match x with|.tmp t=>some t|_=>none
 | .mapUpdate _ x _ _=>match x with|.tmp t=>some t|_=>none
 | .insert _ x _ _=>match x with|.tmp t=>some t|_=>none
 | .call c=>match c.callee with
  | .builtin .append=>zX c.args.toList
  | .builtin .copy=>zX c.args.toList
  | .builtin .clear=>zX c.args.toList
  | _=>none
 | _=>none
def gF:Op->Option (List Tmp)
 | .load _ x=>match x with|.tmp t=>some [t]|_=>none
 | .store _ x _=>match x with|.tmp t=>some [t]|_=>none
 | .lookup _ x _ _=>match x with|.tmp t=>some [t]|_=>none
 | .entry x=>match x with|.tmp t=>some [t]|_=>none
 | .mapUpdate _ x _ _=>match x with|.tmp t=>some [t]|_=>none
 | .insert _ x _ _=>match x with|.tmp t=>some [t]|_=>none
 | .indexAddr _ x _=>match x with|.tmp t=>some [t]|_=>none
 | .slice _ x _ _ mx=>match x,mx with|.tmp t,none=>some [t]|_,_=>none
 | .call c=>match c.callee with
  | .builtin _=>some (tmpsOf c.args.toList)
  | _=>none
 | _=>none
theorem agR {xs:List Operand} {t:Tmp} (h:zX xs=some t):t∈tmpsOf xs:=by
 unfold zX at h
 split at h
 ·simp at h;subst h;simp [tmpsOf]
 ·cases h
theorem X2 {op:Op} {t:Tmp} {ys:List Tmp} (h:ko op=some t) (h':gF op=some ys):t∈ys:=by
 cases op<;>try (cases h;done)
 case store ty x z=>cases x<;>simp [ko] at h;subst h;simp [gF] at h';subst h';simp
 case mapUpdate ty x y z=>cases x<;>simp [ko] at h;subst h;simp [gF] at h';subst h';simp
 case insert ty x y z=>cases x<;>simp [ko] at h;subst h;simp [gF] at h';subst h';simp
 case call c =>
  cases hc:c.callee with
  | value g=>simp [ko,hc] at h
  | invoke r m=>simp [ko,hc] at h
  | builtin b =>
   simp only [gF,hc,rR] at h'
   subst h'
   cases b<;>simp [ko,hc] at h<;>exact agR h
def newVar:Op->Bool
 | .alloc _|.box ..|.buildSlice ..|.makeSlice ..|.makeMap ..|.range ..=>true
 | .call c=>match c.callee with
  | .builtin .append=>true
  | .value _=>true
  | _=>false
 | _=>false
def vO:Op->Option Tmp
 | .fieldAddr _ x _=>match x with|.tmp t=>some t|_=>none
 | .indexAddr _ x _=>match x with|.tmp t=>some t|_=>none
 | .nilCheck x=>match x with|.tmp t=>some t|_=>none
 | .move x=>match x with|.tmp t=>some t|_=>none
 | .assign x=>match x with|.tmp t=>some t|_=>none
 | .slice _ x _ _ mx=>match x,mx with|.tmp t,none=>some t|_,_=>none
 | _=>none
def HP (o:Oper) (t:Tmp):Bool:=match o.dst with|some d=>Nat.beq d t|none=>false
theorem PN {o:Oper} {t:Tmp}:HP o t=true↔o.dst=some t:=by
 unfold HP
 cases o.dst with
 | none=>simp
 | some d=>simp only [rR];exact ⟨nM,λh=>h ▸ PI d⟩
def sa (
     r:Tmp->Option (List Tmp)) (t:Tmp):List Oper->Option (List Tmp)
 | []=>some [t]
 | o :: os=>match HP o t with
  | false=>sa r t os
  | true=>match newVar o.op with
   | true=>sa r t os
   | false=>match vO o.op with
    | none=>none
    | some x=>match r x,sa r t os with
     | some a,some b=>some (a++b)
     | _,_=>none
def ld (ops:List Oper):Nat->Tmp->Option (List Tmp)
 | 0,_=>none
 | n+1,t=>sa (ld ops n) t ops
theorem K1 {r r':Tmp->Option (List Tmp)} (h:∀x a,r x=some a->r' x=some a) {t:Tmp}:∀{os:List Oper} {A:List Tmp},sa r t os=some A->sa r' t os=some A
 | [],A,e=>e
 | o :: os,A,e=>by
  unfold sa at e ⊢
  split at e
  ·exact K1 h e
  ·split at e
   ·exact K1 h e
   ·split at e
    ·cases e
    ·split at e
     ·rename_i a b h1 h2
      simp only [h _ _ h1,K1 h h2]
      exact e
     ·cases e
theorem X3 {ops:List Oper}:∀{n:Nat} {t:Tmp} {A:List Tmp},ld ops n t=some A->ld ops (n+1) t=some A
 | 0,t,A,h=>by cases h
 | n+1,t,A,h=>K1 (λ_ _=>X3) h
theorem K2 {r:Tmp->Option (List Tmp)} {t:Tmp}:∀{os:List Oper} {A:List Tmp},sa r t os=some A->t∈A
 | [],A,e=>by cases e;simp
 | o :: os,A,e=>by
  unfold sa at e
  split at e
  ·exact K2 e
  ·split at e
   ·exact K2 e
   ·split at e
    ·cases e
    ·split at e
     ·rename_i a b h1 h2
      cases e
      exact zO _ (K2 h2)
     ·cases e
theorem Hq {r:Tmp->Option (List Tmp)} {t:Tmp} {o:Oper} (hd:o.dst=some t):∀{os:List Oper} {A:List Tmp},o∈os->sa r t os=some A ->
  newVar o.op=true\/∃x B,vO o.op=some x/\r x=some B/\∀y∈B,y∈A
 | [],A,h,_=>by cases h
 | o' :: os,A,h,e=>by
  unfold sa at e
  split at e
  ·rename_i h1
   rcases cJ.1 h with rfl|h
   ·rw [PN.2 hd] at h1;cases h1
   ·exact Hq hd h e
  ·split at e
   ·rename_i h1 h2
    rcases cJ.1 h with rfl|h
    ·exact .inl h2
    ·exact Hq hd h e
   ·split at e
    ·cases e
    ·rename_i x h3
     split at e
     ·rename_i a b h4 h5
      cases e
      rcases cJ.1 h with rfl|h
      ·exact .inr ⟨x,a,h3,h4,λy hy=>vv _ hy⟩
      ·rcases Hq hd h h5 with h6|⟨x,B,h6,h7,h8⟩
       ·exact .inl h6
       ·exact .inr ⟨x,B,h6,h7,λy hy=>zO _ (h8 y hy)⟩
     ·cases e
def vP:List Nat->List Nat->Bool
 | [],_=>true
 | a :: r,l=>(l.all λb=>!Nat.beq a b)&&vP r l
theorem Y1:∀{x y:List Nat},vP x y=true->∀l∈x,l∉y
 | [],_,_,l,hl=>by cases hl
 | a :: r,y,h,l,hl=>by
  simp only [vP,cG] at h
  rcases cJ.1 hl with rfl|hl
  ·intro hy
   have:=gM.1 h.1 l hy
   simp at this
  ·exact Y1 h.2 l hl
def Cc (ops:List Oper) (A:List Tmp):List Tmp->Bool
 | []=>true
 | y :: r=>(match ld ops 8 y with
  | some B=>vP A B
  | none=>false)&&Cc ops A r
def Nx (ops:List Oper) (p j:Oper):Bool :=
 match ko p.op,gF j.op with
 | some x,some ys=>match ld ops 8 x with
  | some A=>Cc ops A ys
  | none=>false
 | _,_=>false
structure FO (ops:List Oper) (p j:Oper) (x:Tmp) (ys:List Tmp):Prop where
 p:ko p.op=some x
 j:gF j.op=some ys
 ax:∃A,ld ops 8 x=some A
 d:∀A,ld ops 8 x=some A->∀y∈ys,∃B,ld ops 8 y=some B/\vP A B=true
theorem W4 {ops:List Oper} {A:List Tmp}:∀{ys:List Tmp},Cc ops A ys=true->∀y∈ys,∃B,ld ops 8 y=some B/\vP A B=true
 | [],_,y,hy=>by cases hy
 | z :: r,h,y,hy=>by
  simp only [Cc,cG] at h
  rcases cJ.1 hy with rfl|hy
  ·have h1:=h.1
   split at h1
   ·rename_i B hB;exact ⟨B,hB,h1⟩
   ·cases h1
  ·exact W4 h.2 y hy
theorem X4 {ops:List Oper} {p j:Oper} (h:Nx ops p j=true):∃x ys,FO ops p j x ys:=by
 unfold Nx at h
 split at h
 ·rename_i x ys h1 h2
  split at h
  ·rename_i A h3
   exact ⟨x,ys,h1,h2,⟨A,h3⟩,λA' e1=>by rw [h3] at e1;cases e1;exact W4 h⟩
  ·cases h
 ·cases h
def LC (ops:List Oper) (p j:Oper):Bool :=
 (match p.dst with|some d=>!(kJ j.op).contains d&&gT ops j != some d&&j.dst != some d|none=>true) &&
 (match j.dst with|some d=>!(kJ p.op).contains d&&gT ops p != some d|none=>true) &&
 (match gT ops p with|some g=>!(kJ j.op).contains g|none=>true) &&
 (match gT ops j with|some g=>!(kJ p.op).contains g|none=>true)
def indep (ops:List Oper) (p j:Oper):Bool :=
 LC ops p j&&((!(oI p.op&&tw j.op)||Nx ops p j)&&(!(oI j.op&&tw p.op)||Nx ops j p))
structure yk (ops:List Oper) (p j:Oper):Prop where
 d1:∀d,p.dst=some d->d∉kJ j.op
 d2:∀d,p.dst=some d->gT ops j≠some d
 d3:∀d,p.dst=some d->j.dst≠some d
 e1:∀d,j.dst=some d->d∉kJ p.op
 e2:∀d,j.dst=some d->gT ops p≠some d
 g1:∀g,gT ops p=some g->g∉kJ j.op
 g2:∀g,gT ops j=some g->g∉kJ p.op
structure vG (ops:List Oper) (p j:Oper):Prop where
 t:yk ops p j
 w1:oI p.op=true->tw j.op=false\/∃x ys,FO ops p j x ys
 w2:oI j.op=true->tw p.op=false\/∃x ys,FO ops j p x ys
theorem V5 {ops:List Oper} {p j:Oper} (h:LC ops p j=true):yk ops p j:=by
 unfold LC at h
 simp only [cG] at h
 obtain ⟨⟨⟨h1,h2⟩,h3⟩,h4⟩:=h
 constructor
 ·intro d hd;rw [hd] at h1;simp at h1;exact h1.1.1
 ·intro d hd;rw [hd] at h1;simp at h1;exact h1.1.2
 ·intro d hd;rw [hd] at h1;simp at h1;exact h1.2
 ·intro d hd;rw [hd] at h2;simp at h2;exact h2.1
 ·intro d hd;rw [hd] at h2;simp at h2;exact h2.2
 ·intro g hg;rw [hg] at h3;simpa using h3
 ·intro g hg;rw [hg] at h4;simpa using h4
theorem Kz {ops:List Oper} {p j:Oper} (h:indep ops p j=true):vG ops p j:=by
 unfold indep at h
 simp only [cG,oq,oY,Bool.and_eq_false_iff] at h
 obtain ⟨h0,h5,h6⟩:=h
 refine ⟨V5 h0,?_,?_⟩
 ·intro hw
  rcases h5 with (h5|h5)|h
  ·rw [hw] at h5;cases h5
  ·exact .inl h5
  ·exact .inr (X4 h)
 ·intro hw
  rcases h6 with (h6|h6)|h
  ·rw [hw] at h6;cases h6
  ·exact .inl h6
  ·exact .inr (X4 h)
theorem yk.symm {ops:List Oper} {p j:Oper} (h:yk ops p j):yk ops j p :=
 ⟨h.e1,h.e2,λd hd e=>h.d3 d e hd,h.d1,h.d2,h.g2,h.g1⟩
theorem vG.symm {ops:List Oper} {p j:Oper} (h:vG ops p j):vG ops j p:=⟨h.t.symm,h.w2,h.w1⟩
theorem aiP {s s':St} {x:Operand} (h:∀t,x=.tmp t->s.t[t]?=s'.t[t]?):ev s x=ev s' x:=by
 cases x with
 | tmp t=>simp only [ev,h t rfl]
 | _=>rfl
theorem Ku {c:Call} {x:Operand} (h:x∈c.args.toList):x∈c.operands:=by
 unfold Call.operands
 exact Array.mem_append.2 (.inr (Array.mem_toList_iff.1 h))
theorem VK (X:Ctx) {s s':St} (l:Nat) (op:Op) (h:∀t∈kJ op,s.t[t]?=s'.t[t]?) (hb:s.b=s'.b):et X s l op=et X s' l op:=by
 have e:∀x∈op.operands,ev s x=ev s' x:=λx hx=>aiP λt ht=>h t (by
  subst ht
  exact Eb.2 ⟨.tmp t,by simpa using hx,rfl⟩)
 have aa0:∀ps:Array (Nat × Operand),(∀x∈ps.map (·.2),ev s x=ev s' x)->(ps.toList.map λp=>(p.1,ev s p.2))=(ps.toList.map λp=>(p.1,ev s' p.2)):=λps hp =>
  s6 λp hm=>by rw [hp p.2 (Array.mem_map.2 ⟨p,by simpa using hm,rfl⟩)]
 cases op<;>simp only [Op.operands] at e<;>simp only [et,<-hb]
 case call c =>
  have ha:c.args.toList.map (ev s)=c.args.toList.map (ev s'):=s6 λx hx=>e x (Ku hx)
  cases hc:c.callee with
  | value g =>
   have hg:ev s g=ev s' g:=e g (by simp [Call.operands,hc])
   simp only [hg,ha]
  | invoke r m=>rfl
  | builtin b=>simp only [ha]
 case build t ps=>rw [aa0 ps (λx hx=>e x (by simpa using hx))]
 case buildSlice t n ps=>rw [aa0 ps (λx hx=>e x (by simpa using hx))]
 case makeFunc fn first captured =>
  rw [s6 (l:=first.toList) (f:=ev s) (g:=ev s') λx hx=>e x (by simp [<-Array.mem_toList_iff,hx]),
   s6 (l:=captured.toList) (f:=ev s) (g:=ev s') λx hx=>e x (by simp [<-Array.mem_toList_iff,hx])]
 case slice t x lo hi mx=>cases lo<;>cases hi<;>cases mx<;>simp_all
 all_goals first|rfl|(simp_all;done)
def eJ:SV->Option Nat
 | .ptr l _=>some l
 | .gh l _ _ _=>some l
 | .own l=>some l
 | .eU l _ _ _=>some l
 | .gn l=>some l
 | .gy l=>some l
 | _=>none
theorem Y2 (X:Ctx) {b b':List Slot} (t:TypeId) {x:SV} (h:∀l,eJ x=some l->b[l]?=b'[l]?):Cn X b t x=Cn X b' t x:=by
 unfold Cn
 cases x<;>simp only [eJ] at h<;>first|rfl|(simp only [h _ rfl])
theorem X5 (X:Ctx) {b b':List Slot} (t:TypeId) {x y:SV} (h:∀l,eJ x=some l->b[l]?=b'[l]?):Ac X b t x y=Ac X b' t x y:=by
 unfold Ac
 cases x<;>simp only [eJ] at h<;>first|rfl|(simp only [h _ rfl])
theorem W5 (X:Ctx) {b b':List Slot} (t:TypeId) {x y:SV} (ok:Bool) (h:∀l,eJ x=some l->b[l]?=b'[l]?):B1 X b t x y ok=B1 X b' t x y ok:=by
 unfold B1
 cases x<;>simp only [eJ] at h<;>first|rfl|(simp only [h _ rfl])
theorem X6 {b b':List Slot} {x:SV} (h:∀l,eJ x=some l->b[l]?=b'[l]?):Cb b x=Cb b' x:=by
 unfold Cb
 cases x with
 | ptr l off =>
  cases off with
  | zero=>simp only [h l rfl]
  | succ n=>rfl
 | _=>rfl
theorem Kq (X:Ctx) {b b':List Slot} (t:TypeId) {x y z:SV} (h:∀l,eJ x=some l->b[l]?=b'[l]?):xX X b t x y z=xX X b' t x y z:=by
 unfold xX
 cases x<;>simp only [eJ] at h<;>first|rfl|(simp only [h _ rfl])
theorem VL (X:Ctx) {b b':List Slot} (t:TypeId) {x y:SV} (h:∀l,eJ x=some l->b[l]?=b'[l]?):zz X b t x y=zz X b' t x y:=by
 unfold zz
 cases x<;>simp only [eJ] at h<;>first|rfl|(simp only [h _ rfl])
theorem alj (X:Ctx) {b b':List Slot} (t:TypeId) {x:SV} (h:∀l,eJ x=some l->b[l]?=b'[l]?):CF X b t x=CF X b' t x:=by
 unfold CF
 cases X.tt t with
 | none=>rfl
 | some i =>
  simp only
  cases i.d<;>cases x<;>simp only [eJ] at h<;>first|rfl|(simp only [h _ rfl])
theorem aa1 {b b':List Slot} {x:SV} (h:∀l,eJ x=some l->b[l]?=b'[l]?):top b x=top b' x:=by
 cases x<;>simp only [eJ] at h<;>first|rfl|(simp only [top,h _ rfl])
theorem ahR (X:Ctx) {b b':List Slot} (l:Nat) (t:TypeId) {x y:SV} (h:∀l,eJ x=some l->b[l]?=b'[l]?) (h':∀l,eJ y=some l->b[l]?=b'[l]?) :
  yf X b l t x y=yf X b' l t x y:=by
 unfold yf
 rw [aa1 h']
 by_cases hl:∃l,eJ x=some l
 ·obtain ⟨l0,hl⟩:=hl
  have hb:=h l0 hl
  cases x<;>simp only [eJ] at hl<;>first|(cases hl;done)|(cases hl;simp only [hb])
 ·cases x<;>first|exact absurd ⟨_,rfl⟩ hl|rfl|((repeat' (first|rfl|split))<;>simp_all;done)
theorem ahd (X:Ctx) {b b':List Slot} (l:Nat) (t t':TypeId) {x y:SV} (h:∀l,eJ x=some l->b[l]?=b'[l]?):x8 X b l t t' x y=x8 X b' l t t' x y:=by
 unfold x8
 cases x<;>simp only [eJ] at h<;>first|rfl|(simp only [h _ rfl])
theorem aka (X:Ctx) {b b':List Slot} (t:TypeId) {x y:SV} (h:∀l,eJ x=some l->b[l]?=b'[l]?) (h':∀l,eJ y=some l->b[l]?=b'[l]?) :
  Am X b t x y=Am X b' t x y:=by
 unfold Am
 rw [aa1 h']
 cases X.tt t with
 | none=>rfl
 | some i =>
  simp only
  cases i.d<;>try rfl
  rename_i e
  simp only
  cases X.tt e with
  | none=>cases x<;>rfl
  | some k=>cases x<;>simp only [eJ] at h<;>first|rfl|simp only [h _ rfl]
theorem X7 (X:Ctx) {b b':List Slot} (l:Nat) (t:TypeId) {x:SV} (lo hi mx:Option SV) (h:∀l,eJ x=some l->b[l]?=b'[l]?) :
  Ae X b l t x lo hi mx=Ae X b' l t x lo hi mx:=by
 unfold Ae
 cases X.tt t with
 | none=>rfl
 | some i =>
  simp only
  cases i.d<;>try rfl
  rename_i e
  simp only
  cases X.tt e with
  | none=>rfl
  | some k=>cases mx<;>cases x<;>simp only [eJ] at h<;>first|rfl|simp only [h _ rfl]
theorem aiQ (X:Ctx) {b b':List Slot} (t:TypeId) {x:SV} (h:∀l,eJ x=some l->b[l]?=b'[l]?):Ad X b t x=Ad X b' t x:=by
 unfold Ad
 cases X.tt t with
 | none=>rfl
 | some i =>
  simp only
  cases i.d<;>try rfl
  rename_i e
  simp only
  cases X.tt e with
  | none=>rfl
  | some k=>cases x<;>simp only [eJ] at h<;>first|rfl|simp only [h _ rfl]
theorem Wn (X:Ctx) {b b':List Slot} (l:Nat) (bi:Builtin) (ts:List TypeId) {xs:List SV} (h:∀x∈xs,∀l,eJ x=some l->b[l]?=b'[l]?) :
  zP X b l bi ts xs=zP X b' l bi ts xs:=by
 unfold zP
 cases bi<;>try rfl
 ·simp only
  split
  ·rw [ahR X l _ (h _ (by simp)) (h _ (by simp)),ahd X l _ _ (h _ (by simp))]
  ·rfl
 ·simp only
  split
  ·rw [aiQ X _ (h _ (by simp))]
  ·rfl
 ·simp only
  split
  ·rw [aka X _ (h _ (by simp)) (h _ (by simp))]
  ·rfl
 ·simp only
  split
  ·rw [alj X _ (h _ (by simp))]
  ·rfl
theorem Qx (X:Ctx) (t:List SV) (b b':List Slot) (l:Nat) (op:Op) (h:tw op=false):et X ⟨t,b⟩ l op=et X ⟨t,b'⟩ l op:=by
 cases op<;>simp [tw] at h<;>rfl
theorem akb (X:Ctx) (t:List SV) (b b':List Slot) (l:Nat) (op:Op) (hd:deep op=false) (h:∀x∈op.operands,∀l,eJ (ev ⟨t,b⟩ x)=some l->b[l]?=b'[l]?) :
  et X ⟨t,b⟩ l op=et X ⟨t,b'⟩ l op:=by
 cases op<;>try rfl
 case load ty x=>exact Y2 X ty (h x (by simp [Op.operands]))
 case store ty x y=>exact X5 X ty (h x (by simp [Op.operands]))
 case indexAddr ty x y=>exact VL X ty (h x (by simp [Op.operands]))
 case lookup ty x y ok=>exact W5 X ty ok (h x (by simp [Op.operands]))
 case entry x=>exact X6 (h x (by simp [Op.operands]))
 case mapUpdate ty x y z=>exact Kq X ty (h x (by simp [Op.operands]))
 case insert ty x y z=>exact Kq X ty (h x (by simp [Op.operands]))
 case slice ty x lo hi mx =>
  have e:∀x,ev ⟨t,b⟩ x=ev ⟨t,b'⟩ x:=λx=>by cases x<;>rfl
  have e':ev ⟨t,b⟩=ev ⟨t,b'⟩:=funext e
  simp only [et,<-e']
  exact X7 X l ty _ _ _ (h x (by simp [Op.operands]))
 case call c =>
  simp only [et]
  cases hc:c.callee with
  | value g=>simp [deep,hc] at hd
  | invoke r m=>rfl
  | builtin bi =>
   simp only
   have e:c.args.toList.map (ev ⟨t,b⟩)=c.args.toList.map (ev ⟨t,b'⟩):=s6 λx _=>by cases x<;>rfl
   rw [<-e]
   refine Wn X l bi _ λy hy=>?_
   obtain ⟨x,hx,rfl⟩:=iM.1 hy
   exact h x (by simp only [Op.operands];exact Ku hx)
def gZ (s:St) (t:Tmp):Option Nat:=eJ ((s.t[t]?).getD .any)
theorem akc (v:Value):eJ (yQ v)=none:=by
 have h1:∀v,eJ (kL v)=none:=λv=>by unfold kL;split<;>rfl
 unfold yQ
 split
 ·rfl
 ·exact h1 _
theorem Y3 (X:Ctx) (t:List SV) (b b':List Slot) (l:Nat) (op:Op) {ys:List Tmp} (hm:gF op=some ys) (h:∀y∈ys,∀l,gZ ⟨t,b⟩ y=some l->b[l]?=b'[l]?) :
  et X ⟨t,b⟩ l op=et X ⟨t,b'⟩ l op:=by
 cases op<;>try (cases hm;done)
 case load ty x =>
  cases x<;>simp [gF] at hm
  subst hm
  exact Y2 X ty (h _ (by simp))
 case store ty x z =>
  cases x<;>simp [gF] at hm
  subst hm
  have e:ev ⟨t,b⟩ z=ev ⟨t,b'⟩ z:=by cases z<;>rfl
  simp only [et,e]
  exact X5 X ty (h _ (by simp))
 case indexAddr ty x z =>
  cases x<;>simp [gF] at hm
  subst hm
  have e:ev ⟨t,b⟩ z=ev ⟨t,b'⟩ z:=by cases z<;>rfl
  simp only [et,e]
  exact VL X ty (h _ (by simp))
 case entry x =>
  cases x<;>simp [gF] at hm
  subst hm
  exact X6 (h _ (by simp))
 case lookup ty x z ok =>
  cases x<;>simp [gF] at hm
  subst hm
  have e:ev ⟨t,b⟩ z=ev ⟨t,b'⟩ z:=by cases z<;>rfl
  simp only [et,e]
  exact W5 X ty ok (h _ (by simp))
 case mapUpdate ty x z z' =>
  cases x<;>simp [gF] at hm
  subst hm
  have e:ev ⟨t,b⟩ z=ev ⟨t,b'⟩ z:=by cases z<;>rfl
  have e':ev ⟨t,b⟩ z'=ev ⟨t,b'⟩ z':=by cases z'<;>rfl
  simp only [et,e,e']
  exact Kq X ty (h _ (by simp))
 case insert ty x z z' =>
  cases x<;>simp [gF] at hm
  subst hm
  have e:ev ⟨t,b⟩ z=ev ⟨t,b'⟩ z:=by cases z<;>rfl
  have e':ev ⟨t,b⟩ z'=ev ⟨t,b'⟩ z':=by cases z'<;>rfl
  simp only [et,e,e']
  exact Kq X ty (h _ (by simp))
 case slice ty x lo hi mx =>
  cases x<;>cases mx<;>simp [gF] at hm
  subst hm
  have e:∀x,ev ⟨t,b⟩ x=ev ⟨t,b'⟩ x:=λx=>by cases x<;>rfl
  have e':ev ⟨t,b⟩=ev ⟨t,b'⟩:=funext e
  simp only [et,<-e']
  exact X7 X l ty _ _ _ (h _ (by simp))
 case call c =>
  simp only [et]
  cases hc:c.callee with
  | value g=>simp [gF,hc] at hm
  | invoke r m=>rfl
  | builtin bi =>
   simp only [gF,hc,rR] at hm
   subst hm
   simp only
   have e:c.args.toList.map (ev ⟨t,b⟩)=c.args.toList.map (ev ⟨t,b'⟩):=s6 λx _=>by cases x<;>rfl
   rw [<-e]
   refine Wn X l bi _ λy hy=>?_
   obtain ⟨x,hx,rfl⟩:=iM.1 hy
   cases x with
   | tmp z=>exact h z (Eb.2 ⟨.tmp z,hx,rfl⟩)
   | const v =>
    intro l hl
    have:eJ (yQ v)=some l:=hl
    rw [akc] at this;cases this
   | global g=>intro l hl;cases hl
   | func f=>intro l hl;cases hl
theorem Km (X:Ctx) (s:St) {ty:TypeId} {z:Operand} {y y':SV} {x:SV} {u:List (Nat × Slot)} (h:(xX X s.b ty (ev s z) y y').out x u) :
  ∃k sl,eJ (ev s z)=some k/\u=[(k,sl)]/\∃x0,s.b[k]?=some x0/\x0.live=.live:=by
 unfold xX at h
 split at h<;>try exact h.elim
 split at h<;>try exact h.elim
 split at h<;>try exact h.elim
 split at h<;>try exact h.elim
 split at h<;>try exact h.elim
 rename_i k e
 split at h<;>try exact h.elim
 rename_i hs
 split at h<;>try exact h.elim
 split at h<;>try exact h.elim
 obtain ⟨_,_,_,rfl⟩:=h
 exact ⟨k,_,by rw [e];rfl,rfl,_,hs,rfl⟩
theorem W6 (X:Ctx) (s:St) (l:Nat) (op:Op) {x:SV} {u:List (Nat × Slot)} (h:(et X s l op).out x u) {t:Tmp} (hm:ko op=some t) :
  ∀q∈u,gZ s t=some q.1\/(fZ op=true/\q.1=l):=by
 cases op<;>try (cases hm;done)
 case store ty z z' =>
  cases z<;>simp [ko] at hm
  rename_i t'
  subst hm
  simp only [et] at h
  unfold Ac at h
  split at h<;>try exact h.elim
  split at h<;>try exact h.elim
  split at h
  ·rename_i k off e
   repeat' split at h
   all_goals try exact h.elim
   obtain rfl:=h.2
   intro q hq;simp at hq;subst hq
   have e':gZ s t'=eJ (ev s (.tmp t')):=rfl
   left;rw [e',e];rfl
  ·rename_i k sz j off e
   repeat' split at h
   all_goals try exact h.elim
   all_goals
    first|(obtain ⟨_,_,_,rfl⟩:=h;done)|skip
   all_goals
    first|(obtain ⟨_,_,rfl⟩:=h)|(obtain ⟨_,_,_,rfl⟩:=h)
    intro q hq;simp at hq;subst hq
    have e':gZ s t'=eJ (ev s (.tmp t')):=rfl
    left;rw [e',e];rfl
  ·exact h.elim
 case mapUpdate ty z z' z'' =>
  cases z<;>simp [ko] at hm
  rename_i t'
  subst hm
  obtain ⟨k,sl,h1,rfl,_⟩:=Km X s h
  intro q hq;simp at hq;subst hq
  exact .inl h1
 case insert ty z z' z'' =>
  cases z<;>simp [ko] at hm
  rename_i t'
  subst hm
  obtain ⟨k,sl,h1,rfl,_⟩:=Km X s h
  intro q hq;simp at hq;subst hq
  exact .inl h1
 case call c =>
  obtain ⟨callee,args,argTypes⟩:=c
  simp only [et] at h
  cases callee with
  | value g=>simp [ko] at hm
  | invoke r m=>simp [ko] at hm
  | builtin bi =>
   simp only at h
   have hd:∀{xs:List Operand} {a b:SV},zX xs=some t->xs.map (ev s)=[a,b]->gZ s t=eJ a:=by
    intro xs a b h1 h2
    unfold zX at h1
    split at h1
    ·simp at h1;subst h1
     simp only [iG,KU] at h2
     rw [<-h2.1];rfl
    ·cases h1
   unfold zP at h
   split at h<;>simp [ko] at hm
   ·split at h<;>try exact h.elim
    rename_i y z FQ
    have hl:=hd hm (by assumption)
    split at h
    ·unfold yf at h
     repeat' split at h
     all_goals try exact h.elim
     iterate 2
      obtain ⟨_,_,_,rfl⟩:=h
      intro q hq;simp at hq
      rcases hq with rfl|rfl
      ·left;rw [hl];rfl
      ·right;exact ⟨rfl,rfl⟩
     all_goals
      obtain ⟨_,_,_,rfl⟩:=h
      intro q hq;simp at hq;subst hq
      right;exact ⟨rfl,rfl⟩
    ·unfold x8 at h
     repeat' split at h
     all_goals try exact h.elim
     ·obtain ⟨_,_,_,rfl⟩:=h
      intro q hq;simp at hq;subst hq
      right;exact ⟨rfl,rfl⟩
     obtain ⟨_,_,_,rfl⟩:=h
     intro q hq;simp at hq
     rcases hq with rfl|rfl
     ·left;rw [hl];rfl
     ·right;exact ⟨rfl,rfl⟩
   ·split at h<;>try exact h.elim
    have hl:=hd hm (by assumption)
    split at h<;>try exact h.elim
    unfold Am at h
    repeat' split at h
    all_goals try exact h.elim
    obtain ⟨_,_,_,rfl⟩:=h
    intro q hq;simp at hq;subst hq
    left;rw [hl];rfl
   ·split at h<;>try exact h.elim
    rename_i ty y Tx FQ
    have hl:gZ s t=eJ y:=by
     unfold zX at hm
     split at hm
     ·rename_i e1
      simp at hm;subst hm
      rw [e1] at FQ
      simp only [iG,KU] at FQ
      rw [<-FQ.1];rfl
     ·cases hm
    unfold Ad at h
    repeat' split at h
    all_goals try exact h.elim
    obtain ⟨_,_,_,rfl⟩:=h
    intro q hq;simp at hq;subst hq
    left;rw [hl];rfl
   ·exact h.elim
theorem X8 (X:Ctx) (s:St) (l:Nat) (op:Op) {x:SV} {u:List (Nat × Slot)} (h:(et X s l op).out x u) {t:Tmp} (hm:vO op=some t) :
  ∀k,eJ x=some k->gZ s t=some k:=by
 have key:∀z,z=ev s (.tmp t)->∀k,eJ z=some k->gZ s t=some k:=by rintro z rfl k hk;exact hk
 cases op<;>try (cases hm;done)
 case move z =>
  cases z<;>simp [vO] at hm
  subst hm
  obtain ⟨rfl,_⟩:=h
  exact key _ rfl
 case assign z =>
  cases z<;>simp [vO] at hm
  subst hm
  obtain ⟨rfl,_⟩:=h
  exact key _ rfl
 case nilCheck z =>
  cases z<;>simp [vO] at hm
  subst hm
  simp only [et] at h
  split at h<;>first|exact h.elim|skip
  ·rename_i e;obtain ⟨rfl,_⟩:=h;exact key _ e.symm
  ·rename_i e;obtain ⟨rfl,_⟩:=h;exact key _ e.symm
  ·obtain ⟨rfl,_⟩:=h;intro k hk;cases hk
 case fieldAddr ty z j =>
  cases z<;>simp [vO] at hm
  subst hm
  rename_i t
  simp only [et] at h
  generalize hz:ev s (.tmp t)=z at h
  unfold GM at h
  repeat' split at h
  all_goals first|exact h.elim|skip
  all_goals
   obtain ⟨rfl,_⟩:=h
   intro k hk
   exact key _ hz.symm k hk
 case slice ty z lo hi mx =>
  cases z<;>cases mx<;>simp [vO] at hm
  subst hm
  rename_i t
  have hc:∀a b,clip a b none=false:=λa b=>by unfold clip;split<;>simp_all
  simp only [et,BK] at h
  generalize hz:ev s (.tmp t)=z at h
  unfold Ae at h
  simp only [hc,Bool.false_and,oX,if_false] at h
  repeat' split at h
  all_goals first|exact h.elim|skip
  all_goals
   intro k hk
   first
   | (obtain ⟨_,_,rfl,_⟩:=h;cases hk;done)
   | (obtain ⟨_,rfl,_⟩:=h;first|(cases hk;done)|exact key _ hz.symm k hk)
   | (obtain ⟨rfl,_⟩:=h;cases hk;done)
 case indexAddr ty z ix =>
  cases z<;>simp [vO] at hm
  subst hm
  rename_i t
  simp only [et] at h
  generalize hz:ev s (.tmp t)=z at h
  unfold zz at h
  repeat' split at h
  all_goals first|exact h.elim|skip
  all_goals
   intro k hk
   first
   | (obtain ⟨_,_,rfl,_⟩:=h;first|(cases hk;done)|exact key _ hz.symm k hk)
   | (obtain ⟨rfl,_⟩:=h;first|(cases hk;done)|exact key _ hz.symm k hk)
   | (obtain ⟨_,rfl,_⟩:=h;exact key _ hz.symm k hk)
def Cd (ops:List Oper) (lb:List (Oper × Nat)) (s:St) (t:Tmp):List Nat :=
 (match gZ s t with|some l=>[l]|none=>[])++(lb.filterMap λp=>match HP p.1 t&&newVar p.1.op&&fZ p.1.op with|true=>some p.2|false=>none)
def qY (ops:List Oper) (lb:List (Oper × Nat)) (s:St) (t:Tmp):List Nat:=match ld ops 8 t with
 | some A=>A.flatMap (Cd ops lb s)
 | none=>[]
structure pQ (ops:List Oper) (K:Tmp->List Nat) (s:St):Prop where
 gH:∀t A,ld ops 8 t=some A->∀l,gZ s t=some l->l∈K t
 cl:∀o∈ops,∀t x A,o.dst=some t->newVar o.op=false->vO o.op=some x->ld ops 8 t=some A->(∃B,ld ops 8 x=some B)/\∀l∈K x,l∈K t
 Ny:∀p∈ops,∀j∈ops,∀x ys,FO ops p j x ys->oI p.op=true->∀y∈ys,∀l∈K x,l∉K y
def uv (ops:List Oper) (K:Tmp->List Nat) (o:Oper) (l:Nat):Prop:=∀t A,o.dst=some t->newVar o.op=true->fZ o.op=true->ld ops 8 t=some A->l∈K t
theorem K3 {ops:List Oper} {lb:List (Oper × Nat)} {s:St}:∀o∈ops,∀t x A,o.dst=some t->newVar o.op=false->vO o.op=some x->ld ops 8 t=some A ->
  (∃B,ld ops 8 x=some B)/\∀l∈qY ops lb s x,l∈qY ops lb s t:=by
 intro o ho t x A hd hn hx hA
 have hA':sa (ld ops 7) t ops=some A:=hA
 rcases Hq hd ho hA' with h|⟨x',B,h1,h2,h3⟩
 ·rw [h] at hn;cases hn
 ·rw [hx] at h1;cases h1
  have h4:=X3 h2
  refine ⟨⟨B,h4⟩,λl hl=>?_⟩
  unfold qY at hl ⊢
  rw [h4] at hl
  rw [hA]
  obtain ⟨y,hy,hl⟩:=Ed.1 hl
  exact Ed.2 ⟨y,h3 y hy,hl⟩
theorem GL {ops:List Oper} {lb:List (Oper × Nat)} {s:St} {t:Tmp} {A:List Tmp} (h:ld ops 8 t=some A) {l:Nat} (hl:l∈Cd ops lb s t):l∈qY ops lb s t:=by
 unfold qY
 rw [h]
 exact Ed.2 ⟨t,K2 (show sa (ld ops 7) t ops=some A from h),hl⟩
theorem pQ.ne {ops:List Oper} {K:Tmp->List Nat} {s:St} (h:pQ ops K s) {p j:Oper} (hp:p∈ops) (hj:j∈ops) {x:Tmp} {ys:List Tmp} (F:FO ops p j x ys) (hw:oI p.op=true) {l:Nat} (hx:gZ s x=some l)
  {y:Tmp} (hm:y∈ys):gZ s y≠some l:=λhy=>by
 obtain ⟨A,hA⟩:=F.ax
 obtain ⟨B,hB,_⟩:=F.d A hA y hm
 exact h.Ny p hp j hj x ys F hw y hm l (h.gH x A hA l hx) (h.gH y B hB l hy)
def Sep (p j:Oper) (s:St):Prop:=oI p.op=true->tw j.op=false\/∃x ys,ko p.op=some x/\gF j.op=some ys/\∀l,gZ s x=some l->∀y∈ys,gZ s y≠some l
theorem vG.sep {ops:List Oper} {K:Tmp->List Nat} {s:St} {p j:Oper} (h:vG ops p j) (FA:pQ ops K s) (hp:p∈ops) (hj:j∈ops):Sep p j s:=λhw=>by
 rcases h.w1 hw with h1|⟨x,ys,F⟩
 ·exact .inl h1
 ·exact .inr ⟨x,ys,F.p,F.j,λl hl y hy=>FA.ne hp hj F hw hl hy⟩
def QX (b:List Slot) (l:Nat):Prop:=∃z,b[l]?=some z/\z.live=.live
def Shape (b:List Slot) (l:Nat) (op:Op) (u:List (Nat × Slot)):Prop :=
 u=[]\/(fZ op=true/\∃y,u=[(l,y)])\/(oI op=true/\∃l0 y,u=[(l0,y)]/\QX b l0) \/
  (oI op=true/\fZ op=true/\∃l0 y z,u=[(l0,y),(l,z)]/\QX b l0)
theorem W7 (X:Ctx) (s:St) (l:Nat) (op:Op) {x:SV} {u:List (Nat × Slot)} (h:(et X s l op).out x u):Shape s.b l op u:=by
 have no:∀{A:eC},A.out x u->(∀x' u',A.out x' u'->u'=[])->Shape s.b l op u:=λh1 h2=>.inl (h2 _ _ h1)
 cases op<;>simp only [et] at h<;>try exact h.elim
 case move y=>exact .inl h.2
 case assign y=>exact .inl h.2
 case pick c y z =>
  unfold Md at h
  split at h<;>try (first|exact h.elim|exact .inl h.2)
  split at h<;>first|exact h.elim|exact .inl h.2
 case alloc e =>
  split at h<;>first|exact h.elim|exact .inr (.inl ⟨rfl,_,h.2⟩)
 case box e y =>
  split at h<;>first|exact h.elim|exact .inr (.inl ⟨rfl,_,h.2⟩)
 case build t ps =>
  unfold Lw at h
  repeat' split at h
  all_goals first|exact h.elim|exact .inl h.2
 case buildSlice t n ps =>
  unfold GK at h
  repeat' split at h
  all_goals first|exact h.elim|exact .inl h.2|exact .inr (.inl ⟨rfl,_,h.2⟩)|(obtain ⟨_,_,_,h⟩:=h;exact .inr (.inl ⟨rfl,_,h⟩))
 case load t y =>
  unfold Cn at h
  repeat' split at h
  all_goals first|exact h.elim|exact .inl h.2|exact .inl h.2.2|(obtain ⟨_,_,_,h⟩:=h;exact .inl h)
 case store t y z =>
  unfold Ac at h
  repeat' split at h
  all_goals try exact h.elim
  ·rename_i hs _
   exact .inr (.inr (.inl ⟨rfl,_,_,h.2,_,hs,rfl⟩))
  ·exact .inr (.inr (.inl ⟨rfl,_,_,h.2.2,_,by assumption,rfl⟩))
  ·obtain ⟨_,_,_,h⟩:=h
   exact .inr (.inr (.inl ⟨rfl,_,_,h,_,by assumption,rfl⟩))
 case mapUpdate t y z z' =>
  obtain ⟨k,sl,_,rfl,x0,hs,hl⟩:=Km X s h
  exact .inr (.inr (.inl ⟨rfl,_,_,rfl,_,hs,hl⟩))
 case insert t y z z' =>
  obtain ⟨k,sl,_,rfl,x0,hs,hl⟩:=Km X s h
  exact .inr (.inr (.inl ⟨rfl,_,_,rfl,_,hs,hl⟩))
 case entry y =>
  unfold Cb at h
  repeat' split at h
  all_goals first|exact h.elim|exact .inl h.2
 case lookup t y z ok =>
  unfold B1 at h
  repeat' split at h
  all_goals first|exact h.elim|(obtain ⟨_,_,_,h⟩:=h;exact .inl h)
 case makeMap t r =>
  unfold Hk at h
  repeat' split at h
  all_goals first|exact h.elim|exact .inr (.inl ⟨rfl,_,h.2⟩)
 case range t y =>
  unfold HH at h
  repeat' split at h
  all_goals first|exact h.elim|exact .inr (.inl ⟨rfl,_,h.2⟩)
 case nilCheck y =>
  repeat' split at h
  all_goals first|exact h.elim|exact .inl h.2
 case binOp bo t y z t' =>
  unfold MG at h
  repeat' split at h
  all_goals try exact h.elim
  all_goals try exact .inl h.2
  all_goals try exact .inl h.2.2
  ·unfold EI at h;split at h<;>first|exact h.elim|exact .inl h.2
  ·unfold Ab at h;split at h<;>first|exact h.elim|exact .inl h.2|exact .inl h.2.2
 case unOp uo t y =>
  unfold Nq at h
  repeat' split at h
  all_goals first|exact h.elim|exact .inl h.2
 case convert src dst y =>
  unfold Me at h
  repeat' split at h
  all_goals first|exact h.elim|exact .inl h.2
 case makeFunc fn fs cs=>exact .inl h.2
 case makeSlice t n m =>
  unfold GN at h
  repeat' split at h
  all_goals first|exact h.elim|exact .inr (.inl ⟨rfl,_,h.2.2⟩)
 case slice t y lo hi mx =>
  unfold Ae at h
  split at h<;>try exact h.elim
  split at h<;>try exact h.elim
  ·split at h<;>try exact h.elim
   split at h
   ·rename_i hc
    split at h<;>try exact h.elim
    have hm:mx.isSome=true:=by
     simp only [cG] at hc
     cases mx with
     | none=>simp [clip] at hc
     | some _=>rfl
    exact .inr (.inl ⟨by cases mx<;>simp at hm;rfl,_,h.2⟩)
   ·repeat' split at h
    all_goals first|exact h.elim|exact .inl h.2.2|exact .inl h.2|(obtain ⟨_,_,_,h⟩:=h;exact .inl h)
  ·repeat' split at h
   all_goals first|exact h.elim|exact .inl h.2.2
  ·repeat' split at h
   all_goals first|exact h.elim|(obtain ⟨_,_,_,h⟩:=h;exact .inl h)
 case fieldAddr t y j =>
  unfold GM at h
  repeat' split at h
  all_goals first|exact h.elim|exact .inl h.2
 case field t y j =>
  unfold Lx at h
  repeat' split at h
  all_goals first|exact h.elim|exact .inl h.2
 case indexAddr t y z =>
  unfold zz at h
  repeat' split at h
  all_goals first|exact h.elim|exact .inl h.2|exact .inl h.2.2|(obtain ⟨_,_,_,h⟩:=h;exact .inl h)
 case index t y z =>
  unfold Lv at h
  repeat' split at h
  all_goals first|exact h.elim|exact .inl h.2|exact .inl h.2.2|(obtain ⟨_,_,_,h⟩:=h;exact .inl h)
 case extract y j =>
  repeat' split at h
  all_goals first|exact h.elim|exact .inl h.2
 case call c =>
  split at h
  ·split at h<;>try exact h.elim
   unfold EU at h
   repeat' split at h
   all_goals first|exact h.elim|(obtain ⟨_,_,_,h⟩:=h;exact .inl h)
  ·rename_i bi hc
   obtain ⟨callee,args,argTypes⟩:=c
   simp only at hc h
   subst hc
   unfold zP at h
   split at h<;>try exact h.elim
   ·split at h<;>try exact h.elim
    unfold CF at h
    repeat' split at h
    all_goals first|exact h.elim|exact .inl h.2|(obtain ⟨_,_,_,h⟩:=h;exact .inl h)
   ·split at h<;>try exact h.elim
    split at h
    ·unfold yf at h
     repeat' split at h
     all_goals try exact h.elim
     iterate 2
      rename_i hs _
      obtain ⟨_,_,_,h⟩:=h
      exact .inr (.inr (.inr ⟨rfl,rfl,_,_,_,h,_,hs,rfl⟩))
     all_goals
      obtain ⟨_,_,_,h⟩:=h
      exact .inr (.inl ⟨rfl,_,h⟩)
    ·unfold x8 at h
     split at h<;>try exact h.elim
     ·repeat' split at h
      all_goals try exact h.elim
      obtain ⟨_,_,_,h⟩:=h
      exact .inr (.inl ⟨rfl,_,h⟩)
     split at h<;>try exact h.elim
     rename_i hs
     repeat' split at h
     all_goals try exact h.elim
     obtain ⟨_,_,_,h⟩:=h
     exact .inr (.inr (.inr ⟨rfl,rfl,_,_,_,h,_,hs,rfl⟩))
   ·split at h<;>try exact h.elim
    split at h<;>try exact h.elim
    unfold Am at h
    repeat' split at h
    all_goals try exact h.elim
    rename_i hs _
    obtain ⟨_,_,_,h⟩:=h
    exact .inr (.inr (.inl ⟨rfl,_,_,h,_,hs,rfl⟩))
   ·split at h<;>try exact h.elim
    unfold Ad at h
    repeat' split at h
    all_goals try exact h.elim
    rename_i hs _
    obtain ⟨_,_,_,h⟩:=h
    exact .inr (.inr (.inl ⟨rfl,_,_,h,_,hs,rfl⟩))
   ·split at h<;>try exact h.elim
    all_goals
     (first|unfold FJ at h|unfold E9 at h)
     repeat' split at h
     all_goals first|exact h.elim|exact .inl h.2
   ·split at h<;>try exact h.elim
    all_goals
     (first|unfold FJ at h|unfold E9 at h)
     repeat' split at h
     all_goals first|exact h.elim|exact .inl h.2
   ·split at h<;>try exact h.elim
    unfold MH at h
    repeat' split at h
    all_goals first|exact h.elim|exact .inl h.2
  ·exact h.elim
def mA (g:Option (Tmp × SV)) (t:List SV):List SV :=
 match g with
 | some (i,v)=>t.set i v
 | none=>t
def na (d:Option Tmp) (x:SV) (t:List SV):List SV :=
 match d with
 | some i=>t.set i x
 | none=>t
theorem P9 (g:Option (Tmp × SV)) (t:List SV) (i:Nat) (h:∀j v,g=some (j,v)->j≠i):(mA g t)[i]?=t[i]?:=by
 unfold mA
 split
 ·rw [gK (h _ _ rfl)]
 ·rfl
theorem Ld (d:Option Tmp) (x:SV) (t:List SV) (i:Nat) (h:∀j,d=some j->j≠i):(na d x t)[i]?=t[i]?:=by
 unfold na
 split
 ·rw [gK (h _ rfl)]
 ·rfl
def pV (X:Ctx) (ops:List Oper) (o:Oper) (l:Nat) (s:St) (g:Option (Tmp × SV)) (x:SV) (u:List (Nat × Slot)):Prop :=
 match vN ops o with
 | none=>g=none/\(et X s l o.op).out x u
 | some (none,_)=>False
 | some (some i,want)=>∃y v,s.t[i]?=some y/\lE y=some v/\g=some (i,v) /\
  match lR want v with
  | true=>(et X ⟨s.t.set i v,s.b⟩ l o.op).out x u
  | false=>x=.cM []/\u=[]
theorem B6 {X:Ctx} {ops:List Oper} {o:Oper} {l:Nat} {s s':St} :
  Out X ops o l s s'↔∃g x u,pV X ops o l s g x u/\s'=⟨na o.dst x (mA g s.t),lC s.b u⟩:=by
 unfold Out pV
 rcases hg:vN ops o with _|⟨_|i,want⟩
 ·constructor
  ·rintro ⟨x,u,h,rfl⟩;exact ⟨none,x,u,⟨rfl,h⟩,rfl⟩
  ·rintro ⟨g,x,u,⟨rfl,h⟩,rfl⟩;exact ⟨x,u,h,rfl⟩
 ·simp
 ·constructor
  ·rintro ⟨y,v,h1,h2,h3⟩
   cases hw:lR want v<;>rw [hw] at h3<;>simp only at h3
   ·exact ⟨some (i,v),.cM [],[],⟨y,v,h1,h2,rfl,by rw [hw];exact ⟨rfl,rfl⟩⟩,h3⟩
   ·obtain ⟨x,u,h4,h5⟩:=h3
    exact ⟨some (i,v),x,u,⟨y,v,h1,h2,rfl,by rw [hw];exact h4⟩,h5⟩
  ·rintro ⟨g,x,u,⟨y,v,h1,h2,rfl,h3⟩,h5⟩
   refine ⟨y,v,h1,h2,?_⟩
   cases hw:lR want v<;>rw [hw] at h3<;>simp only at h3 ⊢
   ·obtain ⟨rfl,rfl⟩:=h3;exact h5
   ·exact ⟨x,u,h3,h5⟩
theorem agS (g:Option (Tmp × SV)) (t:List SV):(mA g t).length=t.length:=by unfold mA;split<;>simp
theorem agT (g:Option Tmp) (x:SV) (t:List SV):(na g x t).length=t.length:=by unfold na;split<;>simp
theorem W8 {y v:SV} (h:lE y=some v):lE v=some v:=by
 unfold lE at h
 split at h<;>simp at h<;>subst h<;>rfl
theorem pV.guard {X:Ctx} {ops:List Oper} {o:Oper} {l:Nat} {s:St} {g:Option (Tmp × SV)} {x:SV} {u:List (Nat × Slot)} (h:pV X ops o l s g x u) :
  (gT ops o=none/\g=none)\/∃i y v,gT ops o=some i/\g=some (i,v)/\s.t[i]?=some y/\lE y=some v:=by
 unfold pV at h
 unfold gT
 split at h
 ·rename_i hg;rw [hg];exact .inl ⟨rfl,h.1⟩
 ·exact h.elim
 ·rename_i i want hg
  obtain ⟨y,v,h1,h2,h3,_⟩:=h
  rw [hg]
  exact .inr ⟨i,y,v,rfl,h3,h1,h2⟩
theorem pV.shape {X:Ctx} {ops:List Oper} {o:Oper} {l:Nat} {s:St} {g:Option (Tmp × SV)} {x:SV} {u:List (Nat × Slot)} (h:pV X ops o l s g x u) :
  Shape s.b l o.op u:=by
 unfold pV at h
 split at h
 ·exact W7 X s l o.op h.2
 ·exact h.elim
 ·rename_i i want hg
  obtain ⟨y,v,h1,h2,h3,h4⟩:=h
  split at h4
  ·exact W7 X ⟨s.t.set i v,s.b⟩ l o.op h4
  ·exact .inl h4.2
theorem VN {f:Fr} {s:St} {η:Nat->Value} {H:bu} {a:Act} {w:World} (D:Den f s η H a w) (x:Operand) {l:Nat} (h:eJ (ev s x)=some l):aS s.b l≠.un:=by
 have hx:=D.ev x
 intro hq
 cases hs:ev s x<;>rw [hs] at h hx<;>simp [eJ] at h<;>subst h<;>simp only [rel,hq] at hx
theorem Y4 {f:Fr} {s:St} {η:Nat->Value} {H:bu} {a:Act} {w:World} (D:Den f s η H a w) {l:Nat} (hu:s.b[l]?=some .un) (y:Slot) :
  ∀(n:Nat) (x:SV) (v:Value),rel η (aS s.b) H x v->iW (s.b.set l y) n x=iW s.b n x
 | 0,x,v,h=>rfl
 | n+1,x,v,h=>by
  have map:∀(cs:List SV) (vs:List Value),aP η (aS s.b) H cs vs->cs.map (iW (s.b.set l y) n)=cs.map (iW s.b n):=by
   intro cs
   induction cs with
   | nil=>intro vs h;rfl
   | cons c r ih =>
    intro vs h
    simp only [aP] at h
    obtain ⟨u,us,h1,h2,h3⟩:=h
    simp only [iG]
    rw [Y4 D hu y n c u h2,ih us h3]
  have hq:aS s.b l=.un:=by rw [cx hu];rfl
  cases x with
  | own k =>
   have hk:l≠k:=by
    rintro rfl
    simp only [rel,hq] at h
   simp only [iW,gK hk]
  | eU k sz m j =>
   have hk:l≠k:=by
    rintro rfl
    simp only [rel,hq] at h
   simp only [iW,gK hk]
  | ptr k off =>
   have hk:l≠k:=by
    rintro rfl
    simp only [rel,hq] at h
   simp only [iW,gK hk]
   split
   ·rename_i e cs hs
    simp only [rel,cx hs,Slot.live] at h
    obtain ⟨kN,vs,h3,h4,h5⟩:=D.sl k _ hs
    rw [map _ _ h5]
   ·rfl
  | gn k =>
   have hk:l≠k:=by
    rintro rfl
    simp only [rel,hq] at h
   simp only [iW,gK hk]
  | fn g cs ds =>
   simp only [iW]
   simp only [rel] at h
   obtain ⟨vs,us,h1,h2,h3⟩:=h
   rw [map _ _ h2,map _ _ h3]
  | agg cs =>
   simp only [iW]
   simp only [rel] at h
   obtain ⟨vs,h1,h2⟩:=h
   rw [map _ _ h2]
  | cM cs =>
   simp only [iW]
   simp only [rel] at h
   obtain ⟨vs,h1,h2⟩:=h
   rw [map _ _ h2]
  | _=>rfl
theorem X9 {f:Fr} {s:St} {η:Nat->Value} {H:bu} {a:Act} {w:World} (D:Den f s η H a w) {l:Nat} (hu:s.b[l]?=some .un) (y:Slot) :
  ∀(cs:List SV) (vs:List Value),aP η (aS s.b) H cs vs->cs.map (view (s.b.set l y))=cs.map (view s.b)
 | [],vs,h=>rfl
 | c :: r,vs,h=>by
  simp only [aP] at h
  obtain ⟨u,us,h1,h2,h3⟩:=h
  simp only [iG,view]
  rw [Y4 D hu y 4 c u h2]
  exact congrArg _ (X9 D hu y r us h3)
theorem ahS (X:Ctx) {f:Fr} {t:List SV} {b:List Slot} (G:Good f ⟨t,b⟩) {l':Nat} {y:Slot} (kF:b[l']?=some .un) (op:Op) (hd:deep op=true) (l:Nat) :
  et X ⟨t,b⟩ l op=et X ⟨t,b.set l' y⟩ l op:=by
 cases op<;>try (cases hd;done)
 case call c =>
  have e:∀x,ev ⟨t,b.set l' y⟩ x=ev ⟨t,b⟩ x:=λx=>by cases x<;>rfl
  obtain ⟨η,H,a,w,D⟩:=G
  simp only [et]
  cases hc:c.callee with
  | invoke r m=>rfl
  | builtin bi=>simp [deep,hc] at hd
  | value g =>
   have hg:=D.ev g
   have hm:c.args.toList.map (ev ⟨t,b.set l' y⟩)=c.args.toList.map (ev ⟨t,b⟩):=s6 λx _=>e x
   simp only [hm,e]
   split
   ·rename_i fid first cap hv
    rw [hv] at hg
    simp only [rel] at hg
    obtain ⟨fs,cs,_,h1,h2⟩:=hg
    have ha:aP η (aS b) H (c.args.toList.map (ev ⟨t,b⟩)) (c.args.toList.map a.eval):=by
     generalize c.args.toList=xs
     induction xs with
     | nil=>simp [aP]
     | cons x r ih=>simp only [iG,aP];exact ⟨_,_,rfl,D.ev x,ih⟩
    simp only [EU]
    rw [X9 D kF y _ _ (iS (iS h1 ha) h2)]
   ·rfl
theorem W9 (X:Ctx) {f:Fr} {t t':List SV} {b:List Slot} (G:Good f ⟨t,b⟩) {o:Oper} {l l':Nat} {IX:Op} {u':List (Nat × Slot)} (we:Shape b l' IX u')
  (kF:fZ IX=true->b[l']?=some .un) (hw:oI IX=true->tw o.op=false\/∃ys,gF o.op=some ys/\∀y∈ys,∀q∈u',gZ ⟨t,b⟩ y≠some q.1)
  (ht:∀i∈kJ o.op,t[i]?=t'[i]?):et X ⟨t,b⟩ l o.op=et X ⟨t',lC b u'⟩ l o.op:=by
 rw [<-VK X (s:=⟨t,lC b u'⟩) (s':=⟨t',lC b u'⟩) l o.op ht rfl]
 rcases we with rfl|⟨nU,y,rfl⟩|⟨Db,l0,y,rfl,_⟩|⟨Db,_,l0,y,z,rfl,_⟩
 ·rfl
 ·by_cases hr:tw o.op=false
  ·exact Qx X t b _ l o.op hr
  ·cases hd:deep o.op with
   | true=>exact ahS X G (kF nU) o.op hd l
   | false =>
    refine akb X t b _ l o.op hd ?_
    intro x _ k hk
    obtain ⟨η,H,a,w,D⟩:=G
    have bO:=VN D x hk
    have:l'≠k:=by
     rintro rfl
     exact bO (by rw [cx (kF nU)];rfl)
    simp only [lC]
    rw [gK this]
 ·rcases hw Db with h|⟨z,h1,h2⟩
  ·exact Qx X t b _ l o.op h
  ·refine Y3 X t b _ l o.op h1 λe he k hk=>?_
   simp only [lC]
   rw [gK (by rintro rfl;exact h2 e he (_,y) (by simp) hk)]
 ·rcases hw Db with h|⟨z',h1,h2⟩
  ·exact Qx X t b _ l o.op h
  ·refine Y3 X t b _ l o.op h1 λe he k hk=>?_
   simp only [lC]
   rw [gK (by rintro rfl;exact h2 e he (_,z) (by simp) hk),gK (by rintro rfl;exact h2 e he (_,y) (by simp) hk)]
theorem aiR {y v:SV} (h:lE y=some v):eJ y=eJ v:=by
 unfold lE at h
 split at h<;>simp at h<;>subst h<;>rfl
theorem GP {s:St} {i:Nat} {y v:SV} (h1:s.t[i]?=some y) (h2:lE y=some v) (b:List Slot) (t:Tmp):gZ ⟨s.t.set i v,b⟩ t=gZ s t:=by
 unfold gZ
 simp only
 rw [gL]
 split
 ·rename_i e;subst e
  rw [if_pos (a7.1 h1).1,h1]
  simp [aiR h2]
 ·rfl
theorem Xa {t:List SV} {b b':List Slot} {d:Option Tmp} {x:SV} {i:Tmp} (h:∀j,d=some j->j≠i):gZ ⟨na d x t,b⟩ i=gZ ⟨t,b'⟩ i:=by
 unfold gZ;simp only;rw [Ld _ _ _ _ h]
section
variable {P:Program} {X:Ctx} {f:Fr} {s:St}
theorem Good.guard {y v:SV} {i:Nat} (G:Good f s) (h1:s.t[i]?=some y) (h2:lE y=some v):Good f ⟨s.t.set i v,s.b⟩:=by
 obtain ⟨η,H,a,w,D⟩:=G
 exact ⟨η,H,a,w,(D.guard h1 h2).1⟩
theorem pV.gH {X:Ctx} {ops:List Oper} {o:Oper} {l:Nat} {s:St} {g:Option (Tmp × SV)} {x:SV} {u:List (Nat × Slot)} (h:pV X ops o l s g x u) {t:Tmp} (hm:ko o.op=some t) :
  ∀q∈u,gZ s t=some q.1\/(fZ o.op=true/\q.1=l):=by
 unfold pV at h
 split at h
 ·exact W6 X s l o.op h.2 hm
 ·exact h.elim
 ·obtain ⟨y,v,h1,h2,h3,h4⟩:=h
  split at h4
  ·intro q hq
   have:=W6 X _ l o.op h4 hm q hq
   rwa [GP h1 h2] at this
  ·obtain ⟨_,rfl⟩:=h4
   simp
theorem Xb (G:Good f s) {ops:List Oper} {o o':Oper} {l l':Nat} (ap:yk ops o' o) (fV:Sep o' o s) (kF:fZ o'.op=true->s.b[l']?=some .un)
  {g':Option (Tmp × SV)} {x':SV} {u':List (Nat × Slot)} (h':pV X ops o' l' s g' x' u') (g:Option (Tmp × SV)) (x:SV) (u:List (Nat × Slot)) :
  pV X ops o l s g x u↔pV X ops o l ⟨na o'.dst x' (mA g' s.t),lC s.b u'⟩ g x u:=by
 have we:=h'.shape
 have j2:=h'.guard
 have xa:=λt hm=>h'.gH (t:=t) hm
 have hw:oI o'.op=true->tw o.op=false\/∃ys,gF o.op=some ys/\∀y∈ys,∀q∈u',gZ s y≠some q.1:=by
  intro Db
  rcases fV Db with h|⟨x,ys,h0,h3,h⟩
  ·exact .inl h
  ·refine .inr ⟨ys,h3,λy hy q hq=>?_⟩
   rcases xa x h0 q hq with h1|⟨h1,h2⟩
   ·exact h _ h1 y hy
   ·obtain ⟨η,H,a,w,D⟩:=G
    intro hk
    refine VN D (.tmp y) (show eJ (ev s (.tmp y))=some l' by rw [<-h2];exact hk) ?_
    rw [cx (kF h1)];rfl
 have ht:∀i∈kJ o.op,(na o'.dst x' (mA g' s.t))[i]?=s.t[i]?:=by
  intro i hi
  rw [Ld _ _ _ _ (λj hj e=>ap.d1 j hj (e ▸ hi)),P9]
  intro j v hv e
  subst e
  rcases j2 with ⟨_,h⟩|⟨j',y,v',h1,h2,_⟩
  ·rw [h] at hv;cases hv
  ·rw [h2] at hv
   simp at hv
   exact ap.g1 j' h1 (hv.1 ▸ hi)
 unfold pV
 split
 ·rw [W9 X (t:=s.t) (b:=s.b) (l:=l) G we kF hw (λi hi=>(ht i hi).symm)]
 ·exact xZ
 ·rename_i i want hg
  have iB:gT ops o=some i:=by simp [gT,hg]
  have hd:∀j,o'.dst=some j->j≠i:=λj hj e=>ap.d2 j hj (e ▸ iB)
  have hi:(na o'.dst x' (mA g' s.t))[i]?=(mA g' s.t)[i]?:=Ld _ _ _ _ hd
  have key:∀v,(∃y,s.t[i]?=some y/\lE y=some v)↔(∃y,(na o'.dst x' (mA g' s.t))[i]?=some y/\lE y=some v):=by
   intro v
   rw [hi]
   by_cases ib:∃v',g'=some (i,v')
   ·obtain ⟨v',e⟩:=ib
    rcases j2 with ⟨_,h⟩|⟨j,y,v2,h1,h2,h3,h4⟩
    ·rw [h] at e;cases e
    ·rw [h2] at e
     simp at e
     obtain ⟨rfl,rfl⟩:=e
     rw [h2]
     have aO:=(a7.1 h3).1
     simp only [mA,pC aO]
     constructor
     ·rintro ⟨y',e1,e2⟩
      rw [h3] at e1;simp at e1;subst e1
      rw [h4] at e2;simp at e2;subst e2
      exact ⟨_,rfl,W8 h4⟩
     ·rintro ⟨y',e1,e2⟩
      simp at e1;subst e1
      rw [W8 h4] at e2;simp at e2;subst e2
      exact ⟨y,h3,h4⟩
   ·rw [P9]
    intro j v' hv e
    subst e
    exact ib ⟨v',hv⟩
  have Fa:∀v,(∃y,s.t[i]?=some y/\lE y=some v)->et X ⟨s.t.set i v,s.b⟩ l o.op=et X ⟨(na o'.dst x' (mA g' s.t)).set i v,lC s.b u'⟩ l o.op:=by
   rintro v ⟨y,h1,h2⟩
   refine W9 X (t:=s.t.set i v) (b:=s.b) (l:=l) (G.guard h1 h2) we kF (λDb=>(hw Db).imp id λ⟨ys',a1,a2⟩=>⟨ys',a1,λy' nV q hq=>by rw [GP h1 h2];exact a2 y' nV q hq⟩) (λk hk=>?_)
   by_cases Tz:i=k
   ·subst Tz
    have aO:=(a7.1 h1).1
    rw [pC aO,pC (by rw [agT,agS];exact aO)]
   ·rw [gK Tz,gK Tz,ht k hk]
  constructor
  ·rintro ⟨y,v,h1,h2,h3,h4⟩
   obtain ⟨y',e1,e2⟩:=(key v).1 ⟨y,h1,h2⟩
   refine ⟨y',v,e1,e2,h3,?_⟩
   rw [<-Fa v ⟨y,h1,h2⟩]
   exact h4
  ·rintro ⟨y',v,e1,e2,h3,h4⟩
   obtain ⟨y,h1,h2⟩:=(key v).2 ⟨y',e1,e2⟩
   refine ⟨y,v,h1,h2,h3,?_⟩
   rw [Fa v ⟨y,h1,h2⟩]
   exact h4
theorem VO (l:Nat) (x:Slot):∀(u:List (Nat × Slot)) (b:List Slot),(∀p∈u,p.1≠l)->lC (b.set l x) u=(lC b u).set l x
 | [],b,_=>rfl
 | (k,y) :: u,b,h=>by
  simp only [lC]
  rw [PG _ _ (h (k,y) (by simp)).symm]
  exact VO l x u _ λp hp=>h p (by simp [hp])
theorem VE:∀(u v:List (Nat × Slot)) (b:List Slot),(∀p∈u,∀q∈v,p.1≠q.1)->lC (lC b u) v=lC (lC b v) u
 | [],v,b,_=>rfl
 | (l,x) :: u,v,b,h=>by
  simp only [lC]
  rw [VE u v _ λp hp q hq=>h p (by simp [hp]) q hq]
  rw [VO l x v b λq hq=>(h (l,x) (by simp) q hq).symm]
theorem PO (t:List SV) (i j:Nat) (x y:SV) (h:i≠j):(t.set i x).set j y=(t.set j y).set i x:=PG _ _ h
theorem swap (G:Good f s) {ops:List Oper} {p j:Oper} {lp lj:Nat} (ap:yk ops p j) (sp:Sep p j s) (sj:Sep j p s) (xq:fZ p.op=true->s.b[lp]?=some .un) (TA:fZ j.op=true->s.b[lj]?=some .un)
  (bO:fZ p.op=true->fZ j.op=true->lp≠lj) {s1 s2:St} (h1:Out X ops p lp s s1) (h2:Out X ops j lj s1 s2):∃FR,Out X ops j lj s FR/\Out X ops p lp FR s2:=by
 rw [B6] at h1 h2
 obtain ⟨gp,xp,up,hp,rfl⟩:=h1
 obtain ⟨gj,xj,uj,hj,rfl⟩:=h2
 have Dc:=(Xb G ap sp xq hp gj xj uj).2 hj
 have qD:=(Xb G ap.symm sj TA Dc gp xp up).1 hp
 refine ⟨_,B6.2 ⟨gj,xj,uj,Dc,rfl⟩,B6.2 ⟨gp,xp,up,qD,?_⟩⟩
 congr 1
 ·
  simp only
  have wg:=hp.guard
  have Jb:=Dc.guard
  have c1:∀(d:Option Tmp) (x:SV) (g:Option (Tmp × SV)) (t:List SV),(∀i k v,d=some i->g=some (k,v)->i≠k)->mA g (na d x t)=na d x (mA g t):=by
   intro d x g t h
   unfold mA na
   cases d<;>cases g<;>try rfl
   rename_i i kv
   obtain ⟨k,v⟩:=kv
   exact PO _ _ _ _ _ (h i k v rfl rfl)
  have c2:∀(d e:Option Tmp) (x y:SV) (t:List SV),(∀i k,d=some i->e=some k->i≠k)->na e y (na d x t)=na d x (na e y t):=by
   intro d e x y t h
   unfold na
   cases d<;>cases e<;>try rfl
   rename_i i k
   exact PO _ _ _ _ _ (h i k rfl rfl)
  have c3:mA gj (mA gp s.t)=mA gp (mA gj s.t):=by
   rcases wg with ⟨_,rfl⟩|⟨i,y,v,a1,rfl,a3,a4⟩
   ·rfl
   rcases Jb with ⟨_,rfl⟩|⟨k,y',v',b1,rfl,b3,b4⟩
   ·rfl
   by_cases e:i=k
   ·subst e
    rw [a3] at b3;simp at b3;subst b3
    rw [a4] at b4;simp at b4;subst b4
    rfl
   ·exact PO _ _ _ _ _ e
  rw [c1 p.dst xp gj _ (by
   rintro i k v hd hg rfl
   rcases Jb with ⟨_,h⟩|⟨k,y',v',b1,h,_⟩
   ·rw [h] at hg;cases hg
   ·rw [h] at hg;simp at hg;exact ap.d2 i hd (by rw [b1,hg.1]))]
  rw [c2 p.dst j.dst xp xj _ (by rintro i k hd he rfl;exact ap.d3 i hd he)]
  rw [c1 j.dst xj gp _ (by
   rintro i k v hd hg rfl
   rcases wg with ⟨_,h⟩|⟨k,y',v',b1,h,_⟩
   ·rw [h] at hg;cases hg
   ·rw [h] at hg;simp at hg;exact ap.e2 i hd (by rw [b1,hg.1]))]
  rw [c3]
 ·
  refine VE up uj s.b ?_
  have fV:=hp.shape
  have hsj:=Dc.shape
  have eS:∀{b:List Slot} {l:Nat} {op:Op} {u:List (Nat × Slot)},Shape b l op u->∀q∈u,(q.1=l/\fZ op=true)\/(oI op=true/\QX b q.1):=by
   rintro b l op u (rfl|⟨h,y,rfl⟩|⟨h,l0,y,rfl,h2⟩|⟨h,h3,l0,y,z,rfl,h2⟩) q hq
   ·simp at hq
   ·simp at hq;subst hq;exact .inl ⟨rfl,h⟩
   ·simp at hq;subst hq;exact .inr ⟨h,h2⟩
   ·simp at hq
    rcases hq with rfl|rfl
    ·exact .inr ⟨h,h2⟩
    ·exact .inl ⟨rfl,h3⟩
  intro q hq r hr e
  rcases eS fV q hq with ⟨e1,a1⟩|⟨w1,z1,l1,l1'⟩<;>rcases eS hsj r hr with ⟨e2,a2⟩|⟨w2,z2,l2,l2'⟩
  ·exact bO a1 a2 (by rw [<-e1,<-e2,e])
  ·rw [<-e,e1,xq a1] at l2
   simp at l2;subst l2;cases l2'
  ·rw [e,e2,TA a2] at l1
   simp at l1;subst l1;cases l1'
  ·have rd:∀{o:Oper},oI o.op=true->tw o.op=true:=by
    intro o w
    cases hjj:o.op<;>rw [hjj] at w<;>simp [oI,X1] at w<;>rfl
   rcases sp w1 with h|⟨x,ys,h,oF,aoI⟩
   ·rw [rd w2] at h;cases h
   rcases sj w2 with h'|⟨x',ys',h',ab3,_⟩
   ·rw [rd w1] at h';cases h'
   have live:∀{o:Oper} {l k:Nat},(fZ o.op=true->s.b[l]?=some .un)->fZ o.op=true/\k=l->s.b[k]?=some z1\/s.b[k]?=some z2->False:=by
    rintro o l k hu ⟨ha,rfl⟩ (h|h)
    ·rw [hu ha] at h;simp at h;subst h;cases l1'
    ·rw [hu ha] at h;simp at h;subst h;cases l2'
   rcases hp.gH h q hq with a1|a1
   ·rcases Dc.gH h' r hr with a2|a2
    ·exact aoI _ a1 x' (X2 h' oF) (by rw [a2,e])
    ·exact live TA a2 (.inr l2)
   ·exact live xq a1 (.inl l1)
theorem Wo {o:Oper} {l:Nat} {x:SV} {u:List (Nat × Slot)} (h:(et X s l o.op).out x u) (hn:newVar o.op=true) (hR:∀f S,X.sp f=some S->∀a,LF (S.res a)):∀k,eJ x=some k->fZ o.op=true/\k=l:=by
 cases ho:o.op<;>rw [ho] at hn h<;>try (cases hn;done)
 case call c =>
  obtain ⟨callee,args,argTypes⟩:=c
  cases callee with
  | value g =>
   simp only [et] at h
   split at h<;>try exact h.elim
   unfold EU at h
   split at h<;>try exact h.elim
   rename_i S hS
   intro k hk
   exfalso
   have:∃a,x=S.res a:=by
    split at h
    ·obtain ⟨a,_,h1,_⟩:=h;exact ⟨a,h1⟩
    ·obtain ⟨a,_,h1,_⟩:=h;exact ⟨a,h1⟩
   obtain ⟨a,rfl⟩:=this
   have h1:=hR _ _ hS a
   cases hq:S.res a<;>rw [hq] at h1 hk<;>simp [LF,eJ] at h1 hk
  | invoke r m=>cases hn
  | builtin bi =>
   cases bi<;>try (cases hn;done)
   simp only [et,zP] at h
   split at h<;>try exact h.elim
   split at h
   all_goals
    first|unfold yf at h|unfold x8 at h
    repeat' split at h
    all_goals try exact h.elim
    all_goals
     obtain ⟨_,_,rfl,_⟩:=h
     intro k hk
     exact ⟨rfl,by simpa [eJ] using hk.symm⟩
 case buildSlice t n ps =>
  simp only [et] at h
  unfold GK at h
  repeat' split at h
  all_goals try exact h.elim
  all_goals
   intro k hk
   first|obtain ⟨rfl,_⟩:=h|obtain ⟨_,_,rfl,_⟩:=h
   first|(cases hk;done)|exact ⟨rfl,by simpa [eJ] using hk.symm⟩
 case makeSlice t n m =>
  simp only [et] at h
  unfold GN at h
  repeat' split at h
  all_goals try exact h.elim
  all_goals
   intro k hk
   obtain ⟨_,rfl,_⟩:=h
   exact ⟨rfl,by simpa [eJ] using hk.symm⟩
 case makeMap t r =>
  simp only [et] at h
  unfold Hk at h
  repeat' split at h
  all_goals try exact h.elim
  all_goals
   intro k hk
   obtain ⟨rfl,_⟩:=h
   exact ⟨rfl,by simpa [eJ] using hk.symm⟩
 case range t y =>
  simp only [et] at h
  unfold HH at h
  repeat' split at h
  all_goals try exact h.elim
  all_goals
   intro k hk
   obtain ⟨rfl,_⟩:=h
   exact ⟨rfl,by simpa [eJ] using hk.symm⟩
 all_goals
  simp only [et] at h
  split at h<;>try exact h.elim
  intro k hk
  obtain ⟨rfl,_⟩:=h
  exact ⟨rfl,by simpa [eJ] using hk.symm⟩
theorem pQ.out {ops:List Oper} {o:Oper} {l:Nat} {s1:St} {Ks:Tmp->List Nat} (FA:pQ ops Ks s) (mo:o∈ops) (hl:uv ops Ks o l) (hR:∀f S,X.sp f=some S->∀a,LF (S.res a)) (h:Out X ops o l s s1):pQ ops Ks s1:=by
 rw [B6] at h
 obtain ⟨g,x,u,hr,rfl⟩:=h
 refine ⟨λt A ht k hk=>?_,FA.cl,FA.Ny⟩
 have Fb:(∀j,o.dst=some j->j≠t)->k∈Ks t:=by
  intro hd
  rw [Xa (b':=s.b) hd] at hk
  rcases hr.guard with ⟨_,rfl⟩|⟨i,y,v,_,rfl,h3,h4⟩
  ·exact FA.gH t A ht k hk
  ·rw [show gZ ⟨mA (some (i,v)) s.t,s.b⟩ t=gZ s t from GP h3 h4 s.b t] at hk
   exact FA.gH t A ht k hk
 by_cases hd:o.dst=some t
 ·have hx:eJ x=some k:=by
   unfold gZ at hk
   simp only [hd,na] at hk
   by_cases aO:t < (mA g s.t).length
   ·rw [pC aO] at hk;exact hk
   ·rw [pD (by rw [x4];exact Nat.le_of_not_lt aO)] at hk;cases hk
  cases hn:newVar o.op with
  | true =>
   have cT:fZ o.op=true/\k=l:=by
    unfold pV at hr
    split at hr
    ·exact Wo hr.2 hn hR k hx
    ·exact hr.elim
    ·obtain ⟨y,v,h1,h2,h3,h4⟩:=hr
     split at h4
     ·exact Wo h4 hn hR k hx
     ·rw [h4.1] at hx;cases hx
   rw [cT.2];exact hl t A hd hn cT.1 ht
  | false =>
   rcases Hq hd mo (show sa (ld ops 7) t ops=some A from ht) with h|⟨z,B,h1,h2,h3⟩
   ·rw [h] at hn;cases hn
   obtain ⟨⟨B',hB'⟩,Il⟩:=FA.cl o mo t z A hd hn h1 ht
   refine Il k (FA.gH z B' hB' k ?_)
   unfold pV at hr
   split at hr
   ·exact X8 X s l o.op hr.2 h1 k hx
   ·exact hr.elim
   ·obtain ⟨y,v,g1,g2,g3,g4⟩:=hr
    split at g4
    ·have:=X8 X _ l o.op g4 h1 k hx
     rwa [GP g1 g2] at this
    ·rw [g4.1] at hx;cases hx
 ·exact Fb λj hj e=>hd (by rw [hj,e])
theorem alk {ops:List Oper} {o:Oper} {l k:Nat} {s1:St} (h:Out X ops o l s s1) (hk:s.b[k]?=some .un) (bO:fZ o.op=true->l≠k):s1.b[k]?=some .un:=by
 rw [B6] at h
 obtain ⟨g,x,u,hr,rfl⟩:=h
 simp only
 rcases hr.shape with rfl|⟨h,y,rfl⟩|⟨h,l0,y,rfl,z,h2,TC⟩|⟨h,h3,l0,y,z,rfl,z',h2,TC⟩
 ·exact hk
 ·simp only [lC];rw [gK (bO h)];exact hk
 ·simp only [lC]
  rw [gK (by rintro rfl;rw [hk] at h2;simp at h2;subst h2;cases TC)];exact hk
 ·simp only [lC]
  rw [gK (bO h3),gK (by rintro rfl;rw [hk] at h2;simp at h2;subst h2;cases TC)];exact hk
end
end Go.Vc
