import Derived.Test.YthnhbemmlfaihaaGreatA8
set_option linter.unusedVariables false
set_option linter.unusedSimpArgs false
set_option maxRecDepth 10000
set_option maxHeartbeats 64000000
namespace Go.Vc
open Go
def Still {α:Type} (P:Program) (m:Sem α):Prop:=∀w x w',m.run P w=.ok x w'->w'=w
section still
variable {P:Program}
theorem sW {α:Type} (x:α):Still P (pure x:Sem α):=by
 intro w y w' h
 simp only [Sem.run_pure,Result.ok.injEq] at h
 exact h.2.symm
theorem qz {α β:Type} {m:Sem α} {f:α->Sem β} (h:Still P m) (h':∀x,Still P (f x)):Still P (m >>= f):=by
 intro w x w' e
 rw [Sem.run_bind] at e
 cases hm:m.run P w with
 | ok y w1 =>
  rw [hm] at e
  simp only [Result.andThen] at e
  obtain rfl:=h _ _ _ hm
  exact h' _ _ _ _ e
 | halt x w1=>rw [hm] at e;simp [Result.andThen] at e
theorem A8 {α:Type} (m:String):Still P (stuck m:Sem α):=by
 intro w y w' h;simp at h
theorem Rr {α:Type} (m:Unsupported):Still P (unsupported m:Sem α):=by
 intro w y w' h;simp at h
theorem GR:Still P program:=by
 intro w y w' h;simp at h;exact h.2.symm
theorem Rt (r:Nat):Still P (shape r):=by
 intro w y w' h;simp at h;exact h.2.symm
theorem RO (a:Addr) (m:Mode):Still P (load a m):=by
 intro w y w' h
 rw [run_load] at h
 split at h
 ·simp at h;exact h.2.symm
 ·split at h
  ·simp at h;exact h.2.symm
  ·simp at h
theorem abI (t:TypeId):Still P (typeInfo t):=by
 unfold typeInfo
 refine qz GR λp=>?_
 split
 ·exact sW _
 ·exact A8 _
theorem SJ (t:TypeId):Still P (underlying t):=by
 unfold underlying
 refine qz GR λp=>?_
 split
 ·exact sW _
 ·exact A8 _
theorem abk (t:TypeId):Still P (isAgg t):=by
 unfold isAgg
 refine qz (SJ t) λp=>?_
 split<;>exact sW _
theorem Q7 (t:TypeId):Still P (sizeOf t):=by
 unfold sizeOf
 exact qz (abI t) λp=>sW _
theorem Ru (a:Addr):∀(n i:Nat) (acc:Array Value),Still P (loadCellsFrom a i n acc)
 | 0,i,acc=>sW _
 | n+1,i,acc=>qz (RO _ _) λv=>Ru a n (i+1) _
theorem aaT (t:TypeId) (a:Addr):Still P (loadVar t a):=by
 unfold loadVar
 refine qz (abk t) λp=>?_
 split
 ·refine qz (Q7 t) λn=>qz ?_ λx=>sW _
  exact Ru a n 0 #[]
 ·exact RO a _
theorem RP (v:Value):Still P (Instr.sureAddr v):=by
 unfold Instr.sureAddr
 split
 ·exact sW _
 ·exact A8 _
theorem aa1 (t:TypeId) (v:Value):Still P (Instr.loadAt t v):=by
 unfold Instr.loadAt
 exact qz (RP v) λa=>aaT t a
theorem aa2 (r:Nat):Still P (getObj r):=by
 intro w y w' h
 simp only [getObj,Sem.run] at h
 repeat' split at h
 all_goals first|(simp at h;exact h.2.symm)|simp at h
theorem abJ (a:Addr):Still P (noView a):=by
 unfold noView viewAt
 (repeat' first|exact aa2 _|exact sW _|exact A8 _|exact Rr _|exact Rt _|exact GR|refine qz ?_ λ_=>?_|split)
theorem aa3 (a:Addr):Still P (byteOf a):=by
 unfold byteOf
 (repeat' first|exact sW _|exact A8 _|exact Rr _|exact Rt _|exact GR|exact abJ _|refine qz ?_ λ_=>?_|split|dsimp only)
theorem abl (a:Addr) (f:Field):Still P (fieldPlace a f):=by
 unfold fieldPlace partAt
 (repeat' first|exact sW _|exact Q7 _|exact aa3 _|refine qz ?_ λ_=>?_|split)
theorem aaU (t:TypeId) (v:Value) (j:Nat):Still P (Instr.fieldAt t v j):=by
 unfold Instr.fieldAt
 (repeat' first|exact sW _|exact A8 _|exact SJ _|exact RP _|exact abl _ _|refine qz ?_ λ_=>?_|split)
end still
def oJ (o:Oper):Bool:=o.guard.isNone&&(o.dst.isSome&&match o.op with
 | .move _|.nilCheck _|.fieldAddr ..|.load ..=>true
 | _=>false)
section
variable {P:Program} {X:Ctx} {f f1:Fr} {s:St} {η:Nat->Value} {H:aZ} {a a':Act} {w:World} {o:Oper}
theorem adk (C:X.Ok P) (D:Den f s η H a w) (hl:oJ o=true) {ops:List Oper} {l:Nat} {s1:St} (h:Out X ops o l s s1):∃u η' H',Den f s1 η' H' (a.put o.dst u) w:=by
 unfold oJ at hl
 simp only [b9,Lc] at hl
 obtain ⟨hg,hd,fg⟩:=hl
 unfold Out tv at h
 rw [hg] at h
 obtain ⟨x,u,ho,e⟩:=h
 have hk:=(dN.ID (dJ X s l o.op) (λx' u'=>x'=x/\u'=u)).2 ⟨x,u,ho,rfl,rfl⟩
 have hna:fq o.op=true->s.b[l]?=some .un:=by
  intro ha
  cases px:o.op<;>rw [px] at fg ha<;>first|(cases fg;done)|(simp [fq] at ha;done)
 have FD:pO o.op=true->o.dst=none:=by
  intro ha
  cases px:o.op<;>rw [px] at fg ha<;>first|(cases fg;done)|(simp [pO] at ha;done)
 obtain ⟨x',u',⟨rfl,rfl⟩,FI⟩:=LQ (R:=λx' u'=>x'=x/\u'=u) C D (l:=l) hna FD hk
 have hw:=FI (λa' w'=>∃η' H',Den f s1 η' H' a' w') (λ_ _ _=>False) (λη' H' w' v D'=>⟨η',H',by rw [e];exact D'⟩)
 have afv:∀z w',(execOp a.eval o).run P w=.ok z w'->w'=w/\∃v,z=.value v:=by
  intro z w' hz
  have fin:∀m:Sem Value,Still P m->(do pure (.value (<-m)):Sem Next).run P w=.ok z w'->w'=w/\∃v,z=.value v:=by
   intro m hm hz
   rw [Sem.run_bind] at hz
   cases hr:m.run P w with
   | ok y w1 =>
    rw [hr] at hz
    simp only [Result.andThen,Sem.run_pure,Result.ok.injEq] at hz
    exact ⟨by rw [<-hz.2];exact hm _ _ _ hr,y,hz.1.symm⟩
   | halt y w1=>rw [hr] at hz;simp [Result.andThen] at hz
  cases px:o.op<;>rw [px] at fg<;>try (cases fg;done)
  case move x =>
   simp only [execOp,px,Sem.run_pure,Result.ok.injEq] at hz
   exact ⟨hz.2.symm,_,hz.1.symm⟩
  case load t x =>
   simp only [execOp,px] at hz
   exact fin _ (aa1 _ _) hz
  case fieldAddr t x j =>
   simp only [execOp,px] at hz
   exact fin _ (aaU _ _ _) hz
  case nilCheck x =>
   rw [px] at hk
   simp only [dJ] at hk
   have hx:=D.ev x
   have pt:(∃ad,a.eval x=.pointer (some ad))\/∃g fs cs,a.eval x=.func (.func g) fs cs:=by
    split at hk<;>first|exact hk.elim|skip
    ·rename_i l off e
     rw [e] at hx
     left
     simp only [rel] at hx
     split at hx
     ·exact hx.elim
     ·exact hx
     ·obtain ⟨bl,_,h⟩:=hx;exact ⟨_,h⟩
    ·rename_i cs off e
     rw [e] at hx
     left
     simp only [rel] at hx
     obtain ⟨ad,h,_⟩:=hx;exact ⟨_,h⟩
    ·rename_i g fs cs e
     rw [e] at hx
     right
     simp only [rel] at hx
     obtain ⟨us,vs,h,_⟩:=hx
     exact ⟨_,_,_,h⟩
   rcases pt with ⟨ad,hp⟩|⟨g,fs,cs,hp⟩
   ·simp only [execOp,px,hp,Sem.run_pure,Result.ok.injEq] at hz
    exact ⟨hz.2.symm,_,hz.1.symm⟩
   ·simp only [execOp,px,hp,Sem.run_pure,Result.ok.injEq] at hz
    exact ⟨hz.2.symm,_,hz.1.symm⟩
 unfold Oper.wp at hw
 cases hz:(execOp a.eval o).run P w with
 | ok z w' =>
  obtain ⟨rfl,v,rfl⟩:=afv z w' hz
  rw [hz] at hw
  obtain ⟨η',H',D'⟩:=hw
  exact ⟨v,η',H',D'⟩
 | halt z w'=>rw [hz] at hw;cases z<;>simp only [Oper.upon] at hw
theorem G8 (hl:oJ o=true):fq o.op=false:=by
 unfold oJ at hl
 simp only [b9] at hl
 obtain ⟨_,_,fg⟩:=hl
 cases px:o.op<;>rw [px] at fg<;>first|(cases fg;done)|rfl
theorem adl (hl:oJ o=true) (s:St) (l:Nat):dJ X s l o.op=dJ X s 0 o.op:=by
 unfold oJ at hl
 simp only [b9] at hl
 obtain ⟨_,_,fg⟩:=hl
 cases px:o.op<;>rw [px] at fg<;>first|(cases fg;done)|rfl
theorem TA (hl:oJ o=true):∃d,o.dst=some d:=by
 unfold oJ at hl
 simp only [b9] at hl
 exact qD.1 hl.2.1
theorem abK (hl:oJ o=true):o.guard=none:=by
 unfold oJ at hl
 simp only [b9,Lc] at hl
 exact hl.1
structure uw (ds:List Tmp) (a b:Act):Prop where
 d:a.defers=b.defers
 z:a.tmps.size=b.tmps.size
 t:∀d,d∉ds->a.tmps[d]?=b.tmps[d]?
theorem uw.put {ds:List Tmp} {a b:Act} (h:uw ds a b) (dst:Option Tmp) (v:Value):uw ds (a.put dst v) (b.put dst v):=by
 cases dst with
 | none=>exact h
 | some d =>
  refine ⟨h.d,by simp [Act.put,h.z],λd' jf=>?_⟩
  simp only [Act.put,Array.getElem?_setIfInBounds]
  rw [h.t d' jf,h.z]
theorem uw.ev {ds:List Tmp} {a b:Act} (h:uw ds a b) {x:Operand} (hx:∀t,x=.tmp t->t∉ds):a.eval x=b.eval x:=by
 cases x with
 | tmp t =>
  have:=h.t t (hx t rfl)
  simp only [Act.eval,DW,this]
 | _=>rfl
theorem ach {r:Bool} {F:Fence} (R:RF r F) {ds:List Tmp} {a b:Act} (hs:uw ds a b) {c:Call} {g:FuncId} (ho:o.op=.call c) (hc:c.callee=.value (.func g)) (hd:∀t∈jx o.op,t∉ds)
  {K K':Act->World->Prop} {Q:Exit->Act->World->Prop} (hQ:∀e a w,e≠.normal->¬Q e a w) (hQ':¬LetsOut Q) (hK:∀a1 b1 w',uw ds a1 b1->K b1 w'->K' a1 w') (h:o.wpIn F 0 P b w K Q):o.wpIn F 0 P a w K' Q:=by
 have hev:c.args.map a.eval=c.args.map b.eval:=Array.map_congr_left λx hx=>hs.ev λt ht=>hd t (by
  subst ht
  rw [ho]
  exact Bv.2 ⟨.tmp t,by simpa [Op.operands] using GZ (Array.mem_toList_iff.2 hx),rfl⟩)
 have gu:resolve a.eval c o.type=resolve b.eval c o.type:=by
  unfold resolve
  rw [hc,hev]
  rfl
 have hex:o.semAt F.round a.eval=o.semAt F.round b.eval:=by
  rw [Oper.semAt_eq _ _ _ (λc' e=>by rw [ho] at e;cases e),Oper.semAt_eq _ _ _ (λc' e=>by rw [ho] at e;cases e)]
  unfold execOp
  rw [ho]
  simp only [gu]
 refine ⟨λf _=>R.fn f,?_⟩
 have h2:=h.2
 rw [hex]
 generalize (o.semAt F.round b.eval).run P w=z at *
 cases z with
 | ok x w' =>
  cases x<;>simp only [Oper.uponIn] at h2 ⊢
  case value v=>exact hK _ _ _ (hs.put _ _) h2
  case skip=>exact hK _ _ _ (hs.put _ _) h2
  case defer dd=>exact hK _ _ _ (uw.put (a:={ a with defers:=dd :: a.defers }) (b:={ b with defers:=dd :: b.defers }) ⟨by simp [hs.d],hs.z,hs.t⟩ _ _) h2
  case enter=>exact ⟨h2.1,CallsIn.mono h2.2 λe FL he=>by cases e<;>first|exact hK _ _ _ (hs.put _ _) he|exact absurd he (hQ _ _ _ (by simp))|exact he⟩
  case row=>exact ⟨h2.1,RowsIn.mono h2.2 λv FL he=>hK _ _ _ (hs.put _ _) he⟩
  case round=>exact ⟨h2.1,RoundIn.mono h2.2 λe FL he=>by cases e<;>first|exact hK _ _ _ (hs.put _ _) he|exact absurd he (hQ _ _ _ (by simp))|exact he⟩
  all_goals exact h2
 | halt x w'=>cases x<;>simp only [Oper.uponIn] at h2 ⊢<;>first|exact h2|exact absurd h2 (hQ _ _ _ (by simp))
theorem TC {q:Nat->Live}:∀{t:List SV} {vs lI:List Value},aL η q H t vs->vs.length=lI.length->(∀d:Nat,t[d]?=some .any\/vs[d]?=lI[d]?)->aL η q H t lI
 | [],vs,lI,h,hl,_=>by
  simp only [aL] at h ⊢
  subst h
  cases lI with
  | nil=>rfl
  | cons=>simp at hl
 | x :: r,vs,lI,h,hl,hd=>by
  simp only [aL] at h ⊢
  obtain ⟨v,vs1,rfl,h1,h2⟩:=h
  cases lI with
  | nil=>simp at hl
  | cons v' aif =>
   refine ⟨v',aif,rfl,?_,TC h2 (by simpa using hl) λd=>by simpa using hd (d+1)⟩
   rcases hd 0 with h|h
   ·simp at h;subst h;simp only [rel]
   ·simp at h;subst h;exact h1
theorem Ur:∀(ds:List Nat) {t:List SV} {d:Nat},d∉ds->(kx ds t)[d]?=t[d]?
 | [],_,_,_=>rfl
 | d' :: r,t,d,h=>by
  rw [kx,Ur r (λh'=>h (by simp [h'])),fS (λe=>h (by simp [e]))]
theorem Us:∀(ds:List Nat) {t:List SV} {d:Nat},(kx ds t)[d]?=some .any\/(kx ds t)[d]?=t[d]?
 | [],_,_=>.inr rfl
 | d' :: r,t,d=>by
  rw [kx]
  rcases Us r (t:=t.set d' .any) (d:=d) with h|h
  ·exact .inl h
  ·rw [h,jP]
   split
   ·split
    ·exact .inl rfl
    ·right;rename_i e hn;subst e;simp at hn ⊢;exact hn
   ·exact .inr rfl
theorem TE:∀(ds:List Nat) {t:List SV} {d:Nat} {v:SV},d∉ds->(kx ds t).set d v=kx ds (t.set d v)
 | [],_,_,_,_=>rfl
 | d' :: r,t,d,v,h=>by
  rw [kx,kx,TE r (λh'=>h (by simp [h'])),LI _ _ (λe=>h (by simp [e]))]
theorem Den.but {ds:List Tmp} {a b:Act} (D:Den f s η H b w) (h:uw ds a b):Den f ⟨kx ds s.t,s.b⟩ η H a w:={ D with
 t:=by
  have h1:=LU ds D.t
  refine TC h1 (by simp [h.z]) λd=>?_
  by_cases hd:d∈ds
  ·by_cases hl:d < s.t.length
   ·exact .inl (Mk ds hd hl)
   ·right
    have h2:b.tmps.size=s.t.length:=by have:=ie D.t;simpa using this
    rw [oD (by simp [h2];omega),oD (by simp [h.z,h2];omega)]
  ·right
   have:=h.t d hd
   simpa using this.symm
 d:=by rw [h.d];exact D.d }
def oh:List (Nat × Oper × Nat)->List Tmp
 | []=>[]
 | x :: r=>match x.2.1.dst with
  | some d=>d :: oh r
  | none=>oh r
theorem Ec:∀{L:List (Nat × Oper × Nat)} {d:Tmp},d∈oh L↔∃x∈L,x.2.1.dst=some d
 | [],d=>by simp [oh]
 | x :: r,d=>by
  unfold oh
  split
  ·rename_i d' jf
   rw [cv,Ec]
   constructor
   ·rintro (rfl|⟨y,hy,h⟩)
    ·exact ⟨x,by simp,jf⟩
    ·exact ⟨y,by simp [hy],h⟩
   ·rintro ⟨y,hy,h⟩
    rcases cv.1 hy with rfl|hy
    ·rw [jf] at h;simp at h;exact .inl h.symm
    ·exact .inr ⟨y,hy,h⟩
  ·rename_i jf
   rw [Ec]
   constructor
   ·rintro ⟨y,hy,h⟩;exact ⟨y,by simp [hy],h⟩
   ·rintro ⟨y,hy,h⟩
    rcases cv.1 hy with rfl|hy
    ·rw [jf] at h;cases h
    ·exact ⟨y,hy,h⟩
def E5 (X:Ctx) (s:St) (o:Oper):Prop:=match o.dst with
 | some d=>match dJ X s 0 o.op with
  | .pure v []=>s.t[d]?=some v
  | _=>False
 | none=>False
def IJ (X:Ctx):List Oper->St->Prop
 | [],_=>True
 | o :: r,s=>E5 X s o/\IJ X r s
theorem SK:∀{os:List Oper} {s:St},IJ X os s->∀o∈os,E5 X s o
 | [],_,_,o,h=>by cases h
 | x :: r,s,h,o,ho=>by
  rcases cv.1 ho with rfl|ho
  ·exact h.1
  ·exact SK h.2 o ho
theorem TF (C:X.Ok P) {ops:Array Oper} {k:St->Prop}:∀(A:List (Nat × Oper × Nat)) {s:St} {η:Nat->Value} {H:aZ} {a:Act},(∀x∈A,oJ x.2.1=true)->Den f s η H a w->iP X ops.toList (ol A) s k ->
  ∃s1 a1 η1 H1,Den f s1 η1 H1 a1 w/\k s1/\uw (oh A) a a1
 | [],s,η,H,a,_,D,h=>⟨s,a,η,H,D,h,⟨rfl,rfl,λ_ _=>rfl⟩⟩
 | x :: A,s,η,H,a,hl,D,h=>by
  obtain ⟨s1,h1,h2⟩:=qA.1 h
  obtain ⟨u,η1,H1,D1⟩:=adk C D (hl x (by simp)) h1
  obtain ⟨s2,a2,η2,H2,D2,hk,hs⟩:=TF C A (λy hy=>hl y (by simp [hy])) D1 h2
  refine ⟨s2,a2,η2,H2,D2,hk,?_⟩
  obtain ⟨d,hd⟩:=TA (hl x (by simp))
  have An:oh (x :: A)=d :: oh A:=by simp only [oh,hd]
  rw [hd] at hs
  refine ⟨by rw [<-hs.d];rfl,by rw [<-hs.z];simp [Act.put],λt ht=>?_⟩
  rw [An] at ht
  rw [<-hs.t t (λh=>ht (by simp [h]))]
  simp only [Act.put]
  rw [La (λe=>ht (by simp [e]))]
theorem Rv {ops:List Oper} {k:St->Prop}:∀(L1:List (Oper × Nat)) {L2:List (Oper × Nat)} {s:St},iP X ops L1 s (λs1=>iP X ops L2 s1 k)->iP X ops (L1++L2) s k
 | [],_,_,h=>h
 | x :: L1,L2,s,h=>by
  obtain ⟨s1,h1,h2⟩:=qA.1 h
  exact qA.2 ⟨s1,h1,Rv L1 h2⟩
theorem RQ {ops:List Oper} {k:St->Prop} {s:St}:∀(A:List (Nat × Oper × Nat)),(∀x∈A,oJ x.2.1=true/\E5 X s x.2.1)->(∀x∈A,∀d,x.2.1.dst=some d->d∉jx x.2.1.op) ->
  A.Pairwise (λx y=>∀d,y.2.1.dst=some d->d∉jx x.2.1.op/\x.2.1.dst≠some d)->k s->iP X ops (ol A) ⟨kx (oh A) s.t,s.b⟩ k
 | [],_,_,_,h=>h
 | x :: A,hl,zB,hp,h=>by
  rw [eX] at hp
  obtain ⟨jc,cP⟩:=hl x (by simp)
  obtain ⟨d,hd⟩:=TA jc
  have An:oh (x :: A)=d :: oh A:=by simp only [oh,hd]
  have ff:d∉oh A:=λhm=>by
   obtain ⟨y,hy,As⟩:=Ec.1 hm
   exact (hp.1 y hy d As).2 hd
  unfold E5 at cP
  rw [hd] at cP
  simp only at cP
  split at cP<;>try exact cP.elim
  rename_i v hv
  rw [An]
  refine qA.2 ⟨⟨kx (oh A) s.t,s.b⟩,?_,RQ A (λy hy=>hl y (by simp [hy])) (λy hy=>zB y (by simp [hy])) hp.2 h⟩
  unfold Out tv
  rw [abK jc]
  refine ⟨v,[],?_,?_⟩
  ·rw [adl jc,Q1 X (s:=⟨kx (d :: oh A) s.t,s.b⟩) (s':=s) 0 x.2.1.op (λt ht=>?_) rfl,hv]
   ·exact ⟨rfl,rfl⟩
   ·refine Ur _ λhm=>?_
    rcases cv.1 hm with rfl|hm
    ·exact zB x (by simp) _ hd ht
    ·obtain ⟨y,hy,As⟩:=Ec.1 hm
     exact (hp.1 y hy t As).1 ht
  ·unfold St.iv
   rw [hd]
   simp only [kp]
   rw [kx,TE _ ff,List.set_set,HD _ _ _ cP]
def BD (ops:List Oper) (i:Nat):List Oper:=((ops.take i).zipIdx.filter λp=>!((xJ ops []).getD i 0).testBit p.2).map (·.1)
def Vi (ops:List Oper) (h p:Oper) (j:Nat):Bool:=oJ p&&match p.dst with
 | some d=>!(jx h.op).contains d&&(!(jx p.op).contains d&&(ops.take j).all λq=>!(jx q.op).contains d&&q.dst != some d)
 | none=>false
def Ic (ops:List Oper) (i:Nat):Bool:=match ops[i]? with
 | some h=>h.guard.isNone&&((match h.op with
  | .call c=>match c.callee with
   | .value (.func _)=>true
   | _=>false
  | _=>false)&&(((ops.take i).zipIdx.all λp=>((xJ ops []).getD i 0).testBit p.2||Vi ops h p.1 p.2) &&
   ((ops.drop (i+1)).zipIdx.all λp=>((xJ ops []).getD (i+1+p.2) 0).testBit i)))
 | none=>false
structure Xe (ops:List Oper) (i:Nat) (h:Oper):Prop where
 at_:ops[i]?=some h
 guard:h.guard=none
 call:∃c g,h.op=.call c/\c.callee=.value (.func g)
 uI:∀j p,j < i->ops[j]?=some p->lE ops j i\/(oJ p=true/\p∈BD ops i/\∀d,p.dst=some d->d∉jx h.op/\d∉jx p.op/\∀j' q,j' < j->ops[j']?=some q->d∉jx q.op/\q.dst≠some d)
 back:∀j o,i < j->ops[j]?=some o->lE ops i j
theorem abm {ops:List Oper} {i:Nat} (h:Ic ops i=true):∃o,Xe ops i o:=by
 have hm:=K3 ops ops [] [] rfl rfl (λi j h=>by simp at h)
 unfold Ic at h
 split at h
 ·rename_i o ho
  simp only [b9,Lc] at h
  obtain ⟨h1,h2,h3,h4⟩:=h
  refine ⟨o,ho,h1,?_,λj p hj hp=>?_,λj q hj hq=>?_⟩
  ·split at h2
   ·rename_i c hc
    split at h2
    ·rename_i g hg;exact ⟨c,g,hc,hg⟩
    ·cases h2
   ·cases h2
  ·have fP:(p,j)∈(ops.take i).zipIdx:=by
    rw [Bn,Si hj]
    exact hp
   have:=gE.1 h3 (p,j) fP
   simp only [nM] at this
   cases hb:((xJ ops []).getD i 0).testBit j with
   | true=>exact .inl (hm i j hb)
   | false =>
    right
    rcases this with h|h
    ·rw [hb] at h;cases h
    unfold Vi at h
    simp only [b9] at h
    refine ⟨h.1,?_,λd hd=>?_⟩
    ·unfold BD
     exact jw.2 ⟨(p,j),lx.2 ⟨fP,by simp only [hb];rfl⟩,rfl⟩
    ·have h5:=h.2
     rw [hd] at h5
     simp only [b9] at h5
     refine ⟨by simpa using h5.1,by simpa using h5.2.1,λj' q Ap hq=>?_⟩
     have h6:=gE.1 h5.2.2 q (by
      refine cM (i:=j') ?_
      rw [Si Ap];exact hq)
     simp only [b9] at h6
     exact ⟨by simpa using h6.1,by simpa using h6.2⟩
  ·have fP:(q,j - (i+1))∈(ops.drop (i+1)).zipIdx:=by
    rw [Bn,jm,show i+1+(j - (i+1))=j by omega]
    exact hq
   have:=gE.1 h4 _ fP
   simp only at this
   rw [show i+1+(j - (i+1))=j by omega] at this
   exact hm j i this
 ·cases h
def No (X:Ctx) (call:nq) (S:List SV) (ops:List Oper) (i:Nat) (s:St) (k:St->Prop):Prop:=match ops[i]? with
 | none=>False
 | some h=>match Wi ops s with
  | false=>False
  | true=>iP X ops ((ez ops s.b.length).take i) { s with b:=s.b++iI (nT ops) } λs1 =>
   tJ X call S h 0 s1 λs2=>match zA ((ez ops s.b.length).drop (i+1)) s2.b&&xO ops (pa ops (ez ops s.b.length) s2) ops with
    | true=>IJ X (BD ops i) s2/\iP X ops ((ez ops s.b.length).drop (i+1)) s2 k
    | false=>False
section
variable {P:Program} {X:Ctx} {f f1:Fr} {s:St} {η:Nat->Value} {H:aZ} {a a':Act} {w:World} {o:Oper}
theorem adm {ds:List Nat} {s:St} {t:Tmp} {l:Nat} (h:fZ ⟨kx ds s.t,s.b⟩ t=some l):fZ s t=some l:=by
 unfold fZ at h ⊢
 rcases Us ds (t:=s.t) (d:=t) with h1|h1
 ·simp only [h1,rJ] at h
  cases h
 ·simpa only [h1] using h
theorem abL (C:X.Ok P) (I:lC X) {call:nq} (CO:uz P X call) {r:Bool} {F:Fence} (RR:RF r F) {ops:Array Oper} (O:Ordered ops.toList) {hh:Nat × Oper × Nat} (B:Xe ops.toList hh.1 hh.2.1) (hs:rM ops.toList=true) {Q0:Act->World->Prop} {k k1:St->Prop}
  (hk:∀s' η' H' a' w',Den f s' η' H' a' w'->k s'->sx Q0 .normal a' w') {R:List (Nat × Oper × Nat)} (r9:∀y∈R,hh.1 < y.1) (tM:∀y∈R,ops[y.1]?=some y.2.1)
  (kJ:∀s2,k1 s2->∃Ks,jW ops s2 R/\(∀ds,nY ops.toList Ks ⟨kx ds s2.t,s2.b⟩)/\(∀y:Nat × Oper × Nat,ops[y.1]?=some y.2.1->oJ y.2.1=true->rW ops.toList Ks y.2.1 y.2.2)/\(∀y∈R,rW ops.toList Ks y.2.1 y.2.2)/\(∀q∈BD ops.toList hh.1,E5 X s2 q)/\iP X ops.toList (ol R) s2 k) :
  ∀(n:Nat) (A:List (Nat × Oper × Nat)) {bZ:Array Bool} {Ks:Tmp->List Nat} {s:St} {η:Nat->Value} {H:aZ} {a:Act} {w:World},A.length+R.length+1=n->(∀y∈A,y.1 < hh.1)->jW ops s A->nY ops.toList Ks s->(∀y∈A,rW ops.toList Ks y.2.1 y.2.2) ->
   mu ops (A++hh :: R) bZ->Den f s η H a w->iP X ops.toList (ol A) s (λs1=>tJ X call f.sS hh.2.1 0 s1 k1)->wpAnyIn F 0 P .any ops (sx Q0) n bZ a w:=by
 intro n
 induction n with
 | zero=>intro A _ _ _ _ _ _ _ hn;omega
 | succ n ih =>
  intro A bZ Ks s η H a w hn zR W FA hL Li D h
  have tL:ops[hh.1]?=some hh.2.1:=by simpa using B.at_
  have uJ:∀y∈A++hh :: R,ops[y.1]?=some y.2.1:=by
   intro y hy
   rcases eF.1 hy with hy|hy
   ·exact W.get y hy
   ·rcases cv.1 hy with rfl|hy
    ·exact tL
    ·exact tM y hy
  constructor
  ·intro hr
   cases A with
   | nil =>
    have:=mu.first O Li tL
    rw [hr] at this;cases this
   | cons x A =>
    have:=mu.first O (L:=A++hh :: R) Li (W.get x (by simp))
    rw [hr] at this;cases this
  ·intro i hi
   obtain ⟨h0,o,ho,tk⟩:=mem_ready.1 hi
   have aP:=(fi.1 ho).1
   obtain ⟨x,hx,rfl⟩:=(Li.list i aP).1 h0
   rcases eF.1 hx with Pc|tK
   ·
    obtain ⟨A1,A2,rfl⟩:=Bw Pc
    have gW:=W.get x (by simp)
    have sA:=mu.step (A:=A1) (B:=A2++hh :: R) (by simpa using Li) hi
    have ir:=ko.1 (ko.1 Li.inc).1
    have hA:∀p∈A1,tj ops.toList p.2.1 x.2.1:=by
     intro p oQ
     have sw:=W.get p (by simp [oQ])
     rcases O.apart x.1 x.2.1 p.1 p.2.1 (by simpa using gW) (by simpa using sw) (ir.2.2 p oQ x (by simp)) with hF|j5
     ·exact absurd rfl (Li.uI hi hF (fi.1 sw).1 p (by simp [oQ]))
     ·exact G5 j5
    have h2:=Es C x A2 A1 ⟨η,H,a,w,D⟩ FA hL W hA h
    obtain ⟨s1,h3,h4⟩:=qA.1 h2
    have kE:(A1++x :: A2).Perm (x :: (A1++A2)):=DG
    have fP:x.2.1∈ops.toList:=Array.mem_toList_iff.2 (ue gW)
    have FM:=FA.out fP (hL x (by simp)) (λf S h=>(C.sp f S h).lr) h3
    have W':=(W.perm kE).tail h3
    have kD:=DP C D gW (λha=>W.un x (by simp) ha) (W.store x (by simp)) h3 (Q:=sx Q0) (K:=λa' w'=>∃η' H',Den f s1 η' H' a' w') λη' H' a' w' D'=>⟨η',H',D'⟩
    unfold wpOp at kD
    unfold wpOpIn
    rw [gW] at kD ⊢
    simp only at kD ⊢
    have fin:∀a' w',(∃η' H',Den f s1 η' H' a' w')->wpAnyIn F 0 P .any ops (sx Q0) n (bZ.setIfInBounds x.1 true) a' w':=by
     intro a' w' ⟨η',H',D'⟩
     exact ih (A1++A2) (by simp at hn ⊢;omega) (λy hy=>zR y (kE.mem_iff.2 (by simp only [cv];exact .inr hy))) W' FM (λy hy=>hL y (kE.mem_iff.2 (by simp only [cv];exact .inr hy))) (by simpa using sA) D' h4
    by_cases hw:Region.wanted x.2.1 (yielded ops a.tmps)=true
    ·rw [if_pos hw] at kD ⊢
     rcases kD with kD|kD
     ·have ff:s9 x.2.1.op=false:=by
       have:=gE.1 hs x.2.1 fP
       cases cP:pO x.2.1.op
       ·rw [cP] at this;simpa using this
       ·cases fg:x.2.1.op<;>rw [fg] at cP<;>first|rfl|cases cP
      exact Oper.wpIn_mono (λa' w' hq=>fin a' w' hq) (vT RR ff kD)
     ·exact absurd kD.2 Ei
    ·rw [if_neg hw] at kD ⊢
     exact ⟨λg _=>RR.fn g,fin _ _ kD⟩
   ·rcases cv.1 tK with rfl|tK
    ·
     have uE:∀y∈A,oJ y.2.1=true/\y.2.1∈BD ops.toList x.1/\∀d,y.2.1.dst=some d->d∉jx x.2.1.op/\d∉jx y.2.1.op/\∀j' q,j' < y.1->ops.toList[j']?=some q->d∉jx q.op/\q.dst≠some d:=by
      intro y hy
      rcases B.uI y.1 y.2.1 (zR y hy) (by simpa using W.get y hy) with hF|h
      ·exact absurd rfl (Li.uI hi hF (fi.1 (W.get y hy)).1 y (by simp [hy]))
      ·exact h
     obtain ⟨s1,a1,η1,H1,D1,h1,agW⟩:=TF C A (λy hy=>(uE y hy).1) D h
     obtain ⟨c,g,Jc,Pj⟩:=B.call
     have Pb:fq x.2.1.op=false:=by
      rw [Jc]
      cases c
      simp only at Pj
      subst Pj
      rfl
     have fQ:pO x.2.1.op=false:=by rw [Jc];rfl
     have ff:s9 x.2.1.op=false:=by rw [Jc];rfl
     have sA:=mu.step (A:=A) (B:=R) Li hi
     unfold wpOpIn
     rw [tL]
     simp only
     rw [if_pos (by simp [Region.wanted,B.guard])]
     refine ach RR agW Jc Pj (λt ht hm=>?_) (K:=λa' w'=>∃s2 η' H',Den f s2 η' H' a' w'/\k1 s2) (λe a w he h=>by cases e<;>first|exact absurd rfl he|exact h) Ei (λa2 b2 w' gy hb=>?_)
      (Bk C I CO RR (s:=s1) D1 (l:=0) (by intro ha;rw [Pb] at ha;cases ha) (by intro ha;rw [fQ] at ha;cases ha) ff h1 (Q:=sx Q0) (K:=λa' w'=>∃s2 η' H',Den f s2 η' H' a' w'/\k1 s2) λs' η' H' a' w' D' fJ=>⟨s',η',H',D',fJ⟩)
     ·obtain ⟨y,hy,As⟩:=Ec.1 hm
      exact ((uE y hy).2.2 t As).1 ht
     obtain ⟨s2,η2,H2,D2,qh⟩:=hb
     obtain ⟨Ks2,W2,Pf,hL1,Pg,cP,h2⟩:=kJ s2 qh
     have D3:=D2.but gy
     have Wr:=(ko.1 Li.inc).1
     have Yo:=RQ (X:=X) (ops:=ops.toList) (k:=λs3=>iP X ops.toList (ol R) s3 k) (s:=s2) A (λy hy=>⟨(uE y hy).1,cP _ (uE y hy).2.1⟩) (λy hy d hd=>((uE y hy).2.2 d hd).2.1)
      (Wr.imp_of_mem λ{p q} hp hq aP d hd=>((uE q hq).2.2 d hd).2.2 p.1 p.2.1 aP (by simpa using W.get p hp)) h2
     have aih:iP X ops.toList (ol (A++R)) ⟨kx (oh A) s2.t,s2.b⟩ k:=by
      have:=Rv (ol A) Yo
      unfold ol at this ⊢
      rwa [vC]
     refine Uq RR hs Ei _ _ _ _ ?_
     refine Un C O hk n (A++R) (by simp at hn ⊢;omega) ⟨λy hy=>?_,λy hy=>?_,λy hy ha=>?_,?_⟩ sA.inc sA.list sA.all sA.down (Pf _) (λy hy=>?_) D3 aih
     ·rcases eF.1 hy with hy|hy
      ·exact W.get y hy
      ·exact tM y hy
     ·rcases eF.1 hy with hy|hy
      ·exact W.store y hy
      ·exact W2.store y hy
     ·rcases eF.1 hy with hy|hy
      ·rw [G8 (uE y hy).1] at ha;cases ha
      ·exact W2.un y hy ha
     ·refine ko.2 ⟨Wr.imp_of_mem λ{p q} hp hq _ ha _=>?_,W2.gK,λp hp q hq ha _=>?_⟩
      ·rw [G8 (uE p hp).1] at ha;cases ha
      ·rw [G8 (uE p hp).1] at ha;cases ha
     ·rcases eF.1 hy with hy|hy
      ·exact hL1 y (W.get y hy) (uE y hy).1
      ·exact Pg y hy
    ·
     have hF:=B.back x.1 x.2.1 (r9 x tK) (by simpa using tM x tK)
     exact absurd rfl (Li.uI hi hF (fi.1 tL).1 hh (by simp))
theorem abn (C:X.Ok P) (I:lC X) {call:nq} (CO:uz P X call) {r:Bool} {F:Fence} (RR:RF r F) {id:Nat} {ops:Array Oper} (hs:rM ops.toList=true) (hd:Eg ops.toList=true) {i:Nat} (hb:Ic ops.toList i=true) {Q:Exit->Act->World->Prop} {k:St->Prop}
  (hk:∀s' η' H' a' w',Den f s' η' H' a' w'->k s'->Q .normal a' w') (D:Den f s η H a w) (h:No X call f.sS ops.toList i s k):(Code.region id ops true).wpIn F 0 P Q a w:=by
 refine wpIn_mono (Q:=sx (Q .normal)) ?_ (λe a' w' h=>by cases e<;>first|exact h|exact h.elim)
 have hk:∀s' η' H' a' w',Den f s' η' H' a' w'->k s'->sx (Q .normal) .normal a' w':=hk
 have O:=Q5 hd
 obtain ⟨fg,B⟩:=abm hb
 unfold No at h
 rw [B.at_] at h
 simp only at h
 split at h
 ·exact h.elim
 rename_i Cd
 let n:=s.b.length
 let s0:St:={ s with b:=s.b++iI (nT ops.toList) }
 have D1:=D.ext (nT ops.toList)
 have D2:Den f s0 η H a { w with drawn:=w.drawn+1 }:=D1.grown (GS w none)
 have W:jW ops s0 (items ops.toList n):=K2 hs s
 have hlen:(items ops.toList n).length=ops.size:=by
  have:=congrArg List.length (rF ops.toList n)
  simpa using this
 have zS:i < ops.size:=by
  have:=(bf.1 B.at_).1
  simpa using this
 have fx:items ops.toList n=(items ops.toList n).take i++(items ops.toList n)[i]'(by rw [hlen];exact zS) :: (items ops.toList n).drop (i+1):=by
  rw [Sl,List.take_append_drop]
 have zQ:∀(j:Nat) (x:Nat × Oper × Nat),(items ops.toList n)[j]?=some x->x.1=j/\ops[j]?=some x.2.1/\(ez ops.toList n)[j]?=some x.2:=by
  intro j x hx
  have h1:=W.get x (cM hx)
  have h2:((items ops.toList n).map (·.1))[j]?=some x.1:=by rw [kB,hx];rfl
  rw [rF,Lq (by
   have:=(bf.1 hx).1
   rw [hlen] at this;simpa using this)] at h2
  simp at h2
  have h3:(ol (items ops.toList n))[j]?=some x.2:=by unfold ol;rw [kB,hx];rfl
  rw [vH] at h3
  exact ⟨h2.symm,by rw [h2];exact h1,h3⟩
 have FO:(items ops.toList n)[i]?=some ((items ops.toList n)[i]'(by rw [hlen];exact zS)):=eG _
 generalize (items ops.toList n)[i]'(by rw [hlen];exact zS)=hh at fx FO
 obtain ⟨CJ,JS,_⟩:=zQ i hh FO
 have Jb:hh.2.1=fg:=by
  have:ops[i]?=some fg:=by simpa using B.at_
  rw [JS] at this;simpa using this
 have inc:(items ops.toList n).Pairwise (λx y=>x.1 < y.1):=by
  have h2:((items ops.toList n).map (·.1)).Pairwise (· < ·):=by rw [rF];exact Br
  rw [pM] at h2
  exact h2
 have E4:=inc
 rw [fx] at E4
 have Ce:=ko.1 E4
 have Ph:ol ((items ops.toList n).take i)=(ez ops.toList n).take i:=by unfold ol;rw [List.map_take];show (ol (items ops.toList n)).take i=_;rw [vH]
 have FQ:ol ((items ops.toList n).drop (i+1))=(ez ops.toList n).drop (i+1):=by unfold ol;rw [List.map_drop];show (ol (items ops.toList n)).drop (i+1)=_;rw [vH]
 have FA:nY ops.toList (pa ops.toList (ez ops.toList n) s) s0 :=
  ⟨λt A hA l hl=>by
   have hl:fZ s t=some l:=hl
   exact Dt hA (by simp [zn,hl]),Hw,Eh Cd⟩
 have r9:∀y∈(items ops.toList n).drop (i+1),hh.1 < y.1:=λy hy=>(eX.1 Ce.2.1).1 y hy
 refine wpIn_region_any C.mixed ?_
 refine abL C I CO RR O (by rw [CJ,Jb];exact B) hs hk (k1:=λs2=>match zA ((ez ops.toList s.b.length).drop (i+1)) s2.b&&xO ops.toList (pa ops.toList (ez ops.toList s.b.length) s2) ops.toList with
    | true=>IJ X (BD ops.toList i) s2/\iP X ops.toList ((ez ops.toList s.b.length).drop (i+1)) s2 k
    | false=>False) (R:=(items ops.toList n).drop (i+1)) r9
  (λy hy=>W.get y (uh hy)) (λs2 qh=>?_) ops.size ((items ops.toList n).take i) ?_ (λy hy=>Ce.2.2 y hy hh (by simp)) (W.sub (List.take_sublist _ _)) FA
  (λy hy=>Hx s y (ug hy)) ⟨?_,?_,?_,?_⟩ D2 ?_
 ·split at qh
  ·rename_i hq
   simp only [b9] at hq
   refine ⟨pa ops.toList (ez ops.toList n) s2,⟨λx hx=>W.get x (uh hx),λx hx=>W.store x (uh hx),λx hx ha=>?_,W.gK.sublist (List.drop_sublist _ _)⟩,
    λds=>⟨λt A hA l hl=>Dt hA (by simp [zn,adm hl]),Hw,Eh hq.2⟩,λy hy hl t A _ _ ha _=>(by rw [G8 hl] at ha;cases ha),λy hy=>Hx s2 y (uh hy),
    λq hq=>SK qh.1 q (by rw [CJ] at hq;exact hq),by rw [FQ];exact qh.2⟩
   refine LW hq.1 x.2 ?_ ha
   rw [<-FQ]
   exact DE hx
  ·exact qh.elim
 ·simp only [lq,Bc,hlen];omega
 ·rw [<-fx];exact inc
 ·intro j hj
  rw [<-fx]
  have:(Array.replicate ops.size false).getD j true=false:=by simp [hj]
  simp only [this,true_iff]
  have hm:j∈(items ops.toList n).map (·.1):=by rw [rF];simpa using hj
  obtain ⟨x,hx,rfl⟩:=jw.1 hm
  exact ⟨x,hx,rfl⟩
 ·intro j
  by_cases hj:j < ops.size
  ·right;left;simp [hj]
  ·right;right;omega
 ·intro j o e ho hl
  exfalso
  by_cases hj:j < ops.size
  ·simp [hj] at hl
  ·simp [hj] at hl
 ·rw [Ph,Jb];exact h
end
end
def zC (j:Nat):List Nat->Bool
 | []=>false
 | x :: r=>Nat.beq j x||zC j r
def xS (L:List Nat) (i:Nat) (o:Oper):Bool:=!zC i L&&o.after.toList.all λe=>!Region.binds .any e||zC e.on L
def vZ (L:List Nat):List Oper->Nat->List Nat
 | [],_=>[]
 | o :: r,i=>match xS L i o with
  | true=>i :: vZ L r (i+1)
  | false=>vZ L r (i+1)
def MW (f:Nat->Prop):List Nat->Prop
 | []=>True
 | [i]=>f i
 | i :: r=>f i/\MW f r
def zT (
     X:Ctx) (call:nq) (S:List SV) (ops:List Oper):Nat->List Nat->St->(St->Prop)->Prop
 | 0,L,s,k=>match vZ L ops 0 with
  | []=>k s
  | _=>False
 | n+1,L,s,k=>match vZ L ops 0 with
  | []=>k s
  | rs=>MW (λi=>match ops[i]? with
   | none=>False
   | some o=>Ib ops o s
    (λs=>match fq o.op with
     | true=>tJ X call S o s.b.length { s with b:=s.b++[.un] } λs'=>zT X call S ops n (i :: L) s' k
     | false=>tJ X call S o 0 s λs'=>zT X call S ops n (i :: L) s' k)
    (λs=>pS o s λs'=>zT X call S ops n (i :: L) s' k)) rs
theorem DQ {j:Nat}:∀{l:List Nat},zC j l=true↔j∈l
 | []=>by simp [zC]
 | x :: r=>by simp [zC,yX,DQ]
theorem RS {f:Nat->Prop}:∀{l:List Nat},MW f l->∀i∈l,f i
 | [],_,i,h=>by cases h
 | [x],h,i,hi=>by rw [qH] at hi;subst hi;exact h
 | x :: y :: r,h,i,hi=>by
  rcases cv.1 hi with rfl|hi
  ·exact h.1
  ·exact RS h.2 i hi
theorem Ml {L:List Nat}:∀{ops:List Oper} {n i:Nat},i∈vZ L ops n↔n<=i/\∃o,ops[i - n]?=some o/\xS L i o=true
 | [],n,i=>by simp [vZ]
 | o :: r,n,i=>by
  have ih:=@Ml L r (n+1) i
  have e:(n<=i/\∃p,(o :: r)[i - n]?=some p/\xS L i p=true)↔(i=n/\xS L n o=true)\/(n+1<=i/\∃p,r[i - (n+1)]?=some p/\xS L i p=true):=by
   constructor
   ·rintro ⟨h,p,hp,hb⟩
    rcases Nat.eq_or_lt_of_le h with rfl|h
    ·rw [yW] at hp;cases hp;exact .inl ⟨rfl,hb⟩
    ·rw [show i - n=(i - (n+1))+1 by omega] at hp
     exact .inr ⟨h,p,hp,hb⟩
   ·rintro (⟨rfl,hb⟩|⟨h,p,hp,hb⟩)
    ·exact ⟨fN _,o,by rw [yW];rfl,hb⟩
    ·exact ⟨by omega,p,by rw [show i - n=(i - (n+1))+1 by omega];exact hp,hb⟩
  rw [e,<-ih]
  show i∈(match xS L n o with|true=>n :: vZ L r (n+1)|false=>vZ L r (n+1))↔_
  split
  ·rename_i hb
   rw [cv]
   constructor
   ·rintro (rfl|h)
    ·exact .inl ⟨rfl,hb⟩
    ·exact .inr h
   ·rintro (⟨rfl,-⟩|h)
    ·exact .inl rfl
    ·exact .inr h
  ·rename_i hb
   constructor
   ·exact .inr
   ·rintro (⟨-,h⟩|h)
    ·rw [hb] at h;cases h
    ·exact h
section
variable {P:Program} {X:Ctx} {f:Fr}
structure xT (ops:Array Oper) (L:List Nat) (bZ:Array Bool):Prop where
 size:bZ.size=ops.size
 at_:∀j,j < ops.size->(bZ.getD j true=true↔j∈L)
theorem xT.YB {ops:Array Oper} {L:List Nat} {bZ:Array Bool} (h:xT ops L bZ) (hb:∀j∈L,j < ops.size) (j:Nat):bZ.getD j false=true↔j∈L:=by
 by_cases hj:j < ops.size
 ·rw [<-h.at_ j hj]
  have:j < bZ.size:=by rw [h.size];exact hj
  simp [this]
 ·have h1:¬j < bZ.size:=by rw [h.size];exact hj
  constructor
  ·intro e;simp [h1] at e
  ·intro e;exact absurd (hb j e) hj
theorem xT.ready {ops:Array Oper} {L:List Nat} {bZ:Array Bool} (h:xT ops L bZ) (hb:∀j∈L,j < ops.size) (i:Nat):i∈Region.ready .any ops bZ↔i∈vZ L ops.toList 0:=by
 rw [mem_ready,Ml]
 constructor
 ·rintro ⟨h0,o,ho,e7⟩
  have aP:i < ops.size:=(fi.1 ho).1
  refine ⟨cI _,o,by rw [DL];simpa using ho,?_⟩
  simp only [xS,b9,mX,gE,nM]
  refine ⟨?_,λe he=>?_⟩
  ·cases hq:zC i L
   ·rfl
   ·have:=(h.at_ i aP).2 (DQ.1 hq);rw [h0] at this;cases this
  ·cases Pk:Region.binds .any e
   ·exact .inl rfl
   ·exact .inr (DQ.2 ((h.YB hb e.on).1 (e7 e (by simpa using he) Pk)))
 ·rintro ⟨-,o,ho,hr⟩
  rw [DL] at ho
  have ho:ops[i]?=some o:=by simpa using ho
  have aP:i < ops.size:=(fi.1 ho).1
  simp only [xS,b9,mX,gE,nM] at hr
  refine ⟨?_,o,ho,λe he Pk=>?_⟩
  ·cases hq:bZ.getD i true
   ·rfl
   ·have:=DQ.2 ((h.at_ i aP).1 hq);rw [hr.1] at this;cases this
  ·rcases hr.2 e (by simpa using he) with h1|h1
   ·rw [Pk] at h1;cases h1
   ·exact (h.YB hb e.on).2 (DQ.1 h1)
theorem xT.set {ops:Array Oper} {L:List Nat} {bZ:Array Bool} (h:xT ops L bZ) {i:Nat} (hi:i < ops.size):xT ops (i :: L) (bZ.setIfInBounds i true):=by
 refine ⟨by simp [h.size],λj hj=>?_⟩
 have ei:j < bZ.size:=by rw [h.size];exact hj
 by_cases e:i=j
 ·subst e;simp [ei]
 ·rw [getD_set_ne true e,h.at_ j hj,cv]
  constructor
  ·exact .inr
  ·rintro (rfl|h)
   ·exact absurd rfl e
   ·exact h
theorem G9 (C:X.Ok P) (I:lC X) {call:nq} (CO:uz P X call) {r0:Bool} {F:Fence} (R:RF r0 F) {ops:Array Oper} (cP:rM ops.toList=true)
  {Q:Exit->Act->World->Prop} {k:St->Prop} (hk:∀s' η' H' a' w',Den f s' η' H' a' w'->k s'->Q .normal a' w') :
  ∀(n:Nat) (L:List Nat) (bZ:Array Bool) {s:St} {η:Nat->Value} {H:aZ} {a:Act} {w:World},xT ops L bZ->(∀j∈L,j < ops.size)->Den f s η H a w->zT X call f.sS ops.toList n L s k->wpAnyIn F 0 P .any ops Q n bZ a w
 | 0,L,bZ,s,η,H,a,w,A,hb,D,h=>by
  unfold zT at h
  split at h
  ·rename_i hr
   refine ⟨DV.2 λi hi=>?_,hk _ _ _ _ _ D h⟩
   rw [A.ready hb,hr] at hi;cases hi
  ·exact h.elim
 | n+1,L,bZ,s,η,H,a,w,A,hb,D,h=>by
  unfold zT at h
  refine ⟨λh0=>?_,λi hi=>?_⟩
  ·split at h
   ·exact hk _ _ _ _ _ D h
   ·rename_i rs bR
    exfalso
    apply bR
    refine DV.2 λi hi=>?_
    rw [<-A.ready hb,h0] at hi;cases hi
  ·have j5:=(A.ready hb i).1 hi
   split at h
   ·rename_i hr;rw [hr] at j5;cases j5
   have h:=RS h i j5
   obtain ⟨-,o,ho,-⟩:=Ml.1 j5
   rw [DL] at ho
   rw [ho] at h
   have hi:ops[i]?=some o:=by simpa using ho
   have aP:i < ops.size:=(fi.1 hi).1
   have A':=A.set aP
   have gG:∀j∈i :: L,j < ops.size:=λj hj=>by
    rcases cv.1 hj with rfl|hj
    ·exact aP
    ·exact hb j hj
   have e7:=gE.1 cP o (by simpa using ue hi)
   have Aq:BC o:=by
    intro he
    rw [he] at e7
    simpa using e7
   have ff:s9 o.op=false:=by
    cases cP:pO o.op
    ·rw [cP] at e7;simpa using e7
    ·cases fg:o.op<;>rw [fg] at cP<;>first|rfl|cases cP
   unfold wpOpIn
   rw [hi]
   simp only at h ⊢
   obtain ⟨s0,D0,-,h|h⟩:=SH D (ops:=ops) h
   ·rw [if_pos h.1]
    have h2:=h.2
    split at h2
    ·refine Bk C I CO R (s:={ s0 with b:=s0.b++[.un] }) (D0.ext 1) (λ_=>by simp) Aq ff h2 λs' η' H' a' w' D' fJ=>?_
     exact G9 C I CO R cP hk n (i :: L) _ A' gG D' fJ
    ·rename_i oR
     refine Bk C I CO R D0 (λha=>by rw [oR] at ha;cases ha) Aq ff h2 λs' η' H' a' w' D' fJ=>?_
     exact G9 C I CO R cP hk n (i :: L) _ A' gG D' fJ
   ·rw [if_neg (by rw [h.1];simp)]
    have h2:=h.2
    unfold pS at h2
    exact ⟨λg _=>R.fn g,G9 C I CO R cP hk n (i :: L) _ A' gG (D0.put o.dst (x:=.cd []) (by simp only [rel];exact ⟨[],rfl,by simp [aL]⟩)) h2⟩
end
end Go.Vc
