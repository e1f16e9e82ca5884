import Derived.Test.YthnhbemmlfaihaaGreatT8
set_option linter.unusedVariables false
set_option linter.unusedSimpArgs false
set_option maxRecDepth 10000
set_option maxHeartbeats 64000000
namespace Go.Vc
open Go
def Still {α:Type} (P:Program) (m:Sem α):Prop:=∀w x w',m.run P w=.ok x w'->w'=w
section still
variable {P:Program}
theorem xA {α:Type} (x:α):Still P (pure x:Sem α):=by
 intro w y w' h
 simp only [Sem.run_pure,Result.ok.injEq] at h
 exact h.2.symm
theorem uY {α β:Type} {m:Sem α} {f:α->Sem β} (h:Still P m) (h':∀x,Still P (f x)):Still P (m >>= f):=by
 intro w x w' e
 rw [Sem.run_bind] at e
 cases hm:m.run P w with
 | ok y w1 =>
  rw [hm] at e
  simp only [Result.andThen] at e
  obtain rfl:=h _ _ _ hm
  exact h' _ _ _ _ e
 | halt x w1=>rw [hm] at e;simp [Result.andThen] at e
theorem GN {α:Type} (m:String):Still P (stuck m:Sem α):=by
 intro w y w' h;simp at h
theorem aaG {α:Type} (m:Unsupported):Still P (unsupported m:Sem α):=by
 intro w y w' h;simp at h
theorem Nz:Still P program:=by
 intro w y w' h;simp at h;exact h.2.symm
theorem aaH (r:Nat):Still P (shape r):=by
 intro w y w' h;simp at h;exact h.2.symm
theorem aa2 (a:Addr) (m:Mode):Still P (load a m):=by
 intro w y w' h
 rw [run_load] at h
 split at h
 ·simp at h;exact h.2.symm
 ·split at h
  ·simp at h;exact h.2.symm
  ·simp at h
theorem amL (t:TypeId):Still P (typeInfo t):=by
 unfold typeInfo
 refine uY Nz λp=>?_
 split
 ·exact xA _
 ·exact GN _
theorem abC (t:TypeId):Still P (underlying t):=by
 unfold underlying
 refine uY Nz λp=>?_
 split
 ·exact xA _
 ·exact GN _
theorem amo (t:TypeId):Still P (isAgg t):=by
 unfold isAgg
 refine uY (abC t) λp=>?_
 split<;>exact xA _
theorem aar (t:TypeId):Still P (sizeOf t):=by
 unfold sizeOf
 exact uY (amL t) λp=>xA _
theorem aaI (a:Addr):∀(n i:Nat) (acc:Array Value),Still P (loadCellsFrom a i n acc)
 | 0,i,acc=>xA _
 | n+1,i,acc=>uY (aa2 _ _) λv=>aaI a n (i+1) _
theorem al1 (t:TypeId) (a:Addr):Still P (loadVar t a):=by
 unfold loadVar
 refine uY (amo t) λp=>?_
 split
 ·refine uY (aar t) λn=>uY ?_ λx=>xA _
  exact aaI a n 0 #[]
 ·exact aa2 a _
theorem aa3 (v:Value):Still P (Instr.sureAddr v):=by
 unfold Instr.sureAddr
 split
 ·exact xA _
 ·exact GN _
theorem al7 (t:TypeId) (v:Value):Still P (Instr.loadAt t v):=by
 unfold Instr.loadAt
 exact uY (aa3 v) λa=>al1 t a
theorem al8 (r:Nat):Still P (getObj r):=by
 intro w y w' h
 simp only [getObj,Sem.run] at h
 repeat' split at h
 all_goals first|(simp at h;exact h.2.symm)|simp at h
theorem amM (a:Addr):Still P (noView a):=by
 unfold noView viewAt
 (repeat' first|exact al8 _|exact xA _|exact GN _|exact aaG _|exact aaH _|exact Nz|refine uY ?_ λ_=>?_|split)
theorem al9 (a:Addr):Still P (byteOf a):=by
 unfold byteOf
 (repeat' first|exact xA _|exact GN _|exact aaG _|exact aaH _|exact Nz|exact amM _|refine uY ?_ λ_=>?_|split|dsimp only)
theorem amp (a:Addr) (f:Field):Still P (fieldPlace a f):=by
 unfold fieldPlace partAt
 (repeat' first|exact xA _|exact aar _|exact al9 _|refine uY ?_ λ_=>?_|split)
theorem al2 (t:TypeId) (v:Value) (j:Nat):Still P (Instr.fieldAt t v j):=by
 unfold Instr.fieldAt
 (repeat' first|exact xA _|exact GN _|exact abC _|exact aa3 _|exact amp _ _|refine uY ?_ λ_=>?_|split)
end still
def su (o:Oper):Bool:=o.guard.isNone&&(o.dst.isSome&&match o.op with
 | .move _|.nilCheck _|.fieldAddr ..|.load ..=>true
 | _=>false)
section
variable {P:Program} {X:Ctx} {f f1:Fr} {s:St} {η:Nat->Value} {H:bR} {a a':Act} {w:World} {o:Oper}
theorem aoe (C:X.Ok P) (D:Den f s η H a w) (hl:su o=true) {ops:List Oper} {l:Nat} {s1:St} (h:Out X ops o l s s1):∃u η' H',Den f s1 η' H' (a.put o.dst u) w:=by
 unfold su at hl
 simp only [er,S5] at hl
 obtain ⟨hg,hd,fg⟩:=hl
 unfold Out xY at h
 rw [hg] at h
 obtain ⟨x,u,ho,e⟩:=h
 have hk:=(eW.PA (eP X s l o.op) (λx' u'=>x'=x/\u'=u)).2 ⟨x,u,ho,rfl,rfl⟩
 have hna:ij o.op=true->s.b[l]?=some .un:=by
  intro ha
  cases nP:o.op<;>rw [nP] at fg ha<;>first|(cases fg;done)|(simp [ij] at ha;done)
 have Me:ve o.op=true->o.dst=none:=by
  intro ha
  cases nP:o.op<;>rw [nP] at fg ha<;>first|(cases fg;done)|(simp [ve] at ha;done)
 obtain ⟨x',u',⟨rfl,rfl⟩,Mg⟩:=TJ (R:=λx' u'=>x'=x/\u'=u) C D (l:=l) hna Me hk
 have hw:=Mg (λa' w'=>∃η' H',Den f s1 η' H' a' w') (λ_ _ _=>False) (λη' H' w' v D'=>⟨η',H',by rw [e];exact D'⟩)
 have aqm:∀z w',(execOp a.eval o).run P w=.ok z w'->w'=w/\∃v,z=.value v:=by
  intro z w' hz
  have fin:∀m:Sem Value,Still P m->(do pure (.value (<-m)):Sem Next).run P w=.ok z w'->w'=w/\∃v,z=.value v:=by
   intro m hm hz
   rw [Sem.run_bind] at hz
   cases hr:m.run P w with
   | ok y w1 =>
    rw [hr] at hz
    simp only [Result.andThen,Sem.run_pure,Result.ok.injEq] at hz
    exact ⟨by rw [<-hz.2];exact hm _ _ _ hr,y,hz.1.symm⟩
   | halt y w1=>rw [hr] at hz;simp [Result.andThen] at hz
  cases nP:o.op<;>rw [nP] at fg<;>try (cases fg;done)
  case move x =>
   simp only [execOp,nP,Sem.run_pure,Result.ok.injEq] at hz
   exact ⟨hz.2.symm,_,hz.1.symm⟩
  case load t x =>
   simp only [execOp,nP] at hz
   exact fin _ (al7 _ _) hz
  case fieldAddr t x j =>
   simp only [execOp,nP] at hz
   exact fin _ (al2 _ _ _) hz
  case nilCheck x =>
   rw [nP] at hk
   simp only [eP] at hk
   have hx:=D.ev x
   have pt:(∃ad,a.eval x=.pointer (some ad))\/∃g fs cs,a.eval x=.func (.func g) fs cs:=by
    split at hk<;>first|exact hk.elim|skip
    ·rename_i l off e
     rw [e] at hx
     left
     simp only [rel] at hx
     split at hx
     ·exact hx.elim
     ·exact hx
     ·obtain ⟨bl,_,h⟩:=hx;exact ⟨_,h⟩
    ·rename_i cs off e
     rw [e] at hx
     left
     simp only [rel] at hx
     obtain ⟨ad,h,_⟩:=hx;exact ⟨_,h⟩
    ·rename_i g fs cs e
     rw [e] at hx
     right
     simp only [rel] at hx
     obtain ⟨us,vs,h,_⟩:=hx
     exact ⟨_,_,_,h⟩
   rcases pt with ⟨ad,hp⟩|⟨g,fs,cs,hp⟩
   ·simp only [execOp,nP,hp,Sem.run_pure,Result.ok.injEq] at hz
    exact ⟨hz.2.symm,_,hz.1.symm⟩
   ·simp only [execOp,nP,hp,Sem.run_pure,Result.ok.injEq] at hz
    exact ⟨hz.2.symm,_,hz.1.symm⟩
 unfold Oper.wp at hw
 cases hz:(execOp a.eval o).run P w with
 | ok z w' =>
  obtain ⟨rfl,v,rfl⟩:=aqm z w' hz
  rw [hz] at hw
  obtain ⟨η',H',D'⟩:=hw
  exact ⟨v,η',H',D'⟩
 | halt z w'=>rw [hz] at hw;cases z<;>simp only [Oper.upon] at hw
theorem NR (hl:su o=true):ij o.op=false:=by
 unfold su at hl
 simp only [er] at hl
 obtain ⟨_,_,fg⟩:=hl
 cases nP:o.op<;>rw [nP] at fg<;>first|(cases fg;done)|rfl
theorem aof (hl:su o=true) (s:St) (l:Nat):eP X s l o.op=eP X s 0 o.op:=by
 unfold su at hl
 simp only [er] at hl
 obtain ⟨_,_,fg⟩:=hl
 cases nP:o.op<;>rw [nP] at fg<;>first|(cases fg;done)|rfl
theorem acB (hl:su o=true):∃d,o.dst=some d:=by
 unfold su at hl
 simp only [er] at hl
 exact u5.1 hl.2.1
theorem amN (hl:su o=true):o.guard=none:=by
 unfold su at hl
 simp only [er,S5] at hl
 exact hl.1
structure y9 (ds:List Tmp) (a b:Act):Prop where
 d:a.defers=b.defers
 z:a.tmps.size=b.tmps.size
 t:∀d,d∉ds->a.tmps[d]?=b.tmps[d]?
theorem y9.put {ds:List Tmp} {a b:Act} (h:y9 ds a b) (dst:Option Tmp) (v:Value):y9 ds (a.put dst v) (b.put dst v):=by
 cases dst with
 | none=>exact h
 | some d =>
  refine ⟨h.d,by simp [Act.put,h.z],λd' nq=>?_⟩
  simp only [Act.put,Array.getElem?_setIfInBounds]
  rw [h.t d' nq,h.z]
theorem y9.ev {ds:List Tmp} {a b:Act} (h:y9 ds a b) {x:Operand} (hx:∀t,x=.tmp t->t∉ds):a.eval x=b.eval x:=by
 cases x with
 | tmp t =>
  have:=h.t t (hx t rfl)
  simp only [Act.eval,JY,this]
 | _=>rfl
theorem anp {r:Bool} {F:Fence} (R:RF r F) {ds:List Tmp} {a b:Act} (hs:y9 ds a b) {c:Call} {g:FuncId} (ho:o.op=.call c) (hc:c.callee=.value (.func g)) (hd:∀t∈lZ o.op,t∉ds)
  {K K':Act->World->Prop} {Q:Exit->Act->World->Prop} (hQ:∀e a w,e≠.normal->¬Q e a w) (hQ':¬LetsOut Q) (hK:∀a1 b1 w',y9 ds a1 b1->K b1 w'->K' a1 w') (h:o.wpIn F 0 P b w K Q):o.wpIn F 0 P a w K' Q:=by
 have IN:c.args.map a.eval=c.args.map b.eval:=Array.map_congr_left λx hx=>hs.ev λt ht=>hd t (by
  subst ht
  rw [ho]
  exact Ey.2 ⟨.tmp t,by simpa [Op.operands] using NI (Array.mem_toList_iff.2 hx),rfl⟩)
 have jf:resolve a.eval c o.type=resolve b.eval c o.type:=by
  unfold resolve
  rw [hc,IN]
  rfl
 have hex:o.semAt F.round a.eval=o.semAt F.round b.eval:=by
  rw [Oper.semAt_eq _ _ _ (λc' e=>by rw [ho] at e;cases e),Oper.semAt_eq _ _ _ (λc' e=>by rw [ho] at e;cases e)]
  unfold execOp
  rw [ho]
  simp only [jf]
 refine ⟨λf _=>R.fn f,?_⟩
 have h2:=h.2
 rw [hex]
 generalize (o.semAt F.round b.eval).run P w=z at *
 cases z with
 | ok x w' =>
  cases x<;>simp only [Oper.uponIn] at h2 ⊢
  case value v=>exact hK _ _ _ (hs.put _ _) h2
  case skip=>exact hK _ _ _ (hs.put _ _) h2
  case defer dd=>exact hK _ _ _ (y9.put (a:={ a with defers:=dd :: a.defers }) (b:={ b with defers:=dd :: b.defers }) ⟨by simp [hs.d],hs.z,hs.t⟩ _ _) h2
  case enter=>exact ⟨h2.1,CallsIn.mono h2.2 λe Ml he=>by cases e<;>first|exact hK _ _ _ (hs.put _ _) he|exact absurd he (hQ _ _ _ (by simp))|exact he⟩
  case row=>exact ⟨h2.1,RowsIn.mono h2.2 λv Ml he=>hK _ _ _ (hs.put _ _) he⟩
  case round=>exact ⟨h2.1,RoundIn.mono h2.2 λe Ml he=>by cases e<;>first|exact hK _ _ _ (hs.put _ _) he|exact absurd he (hQ _ _ _ (by simp))|exact he⟩
  all_goals exact h2
 | halt x w'=>cases x<;>simp only [Oper.uponIn] at h2 ⊢<;>first|exact h2|exact absurd h2 (hQ _ _ _ (by simp))
theorem acC {q:Nat->Live}:∀{t:List SV} {vs sK:List Value},bd η q H t vs->vs.length=sK.length->(∀d:Nat,t[d]?=some .any\/vs[d]?=sK[d]?)->bd η q H t sK
 | [],vs,sK,h,hl,_=>by
  simp only [bd] at h ⊢
  subst h
  cases sK with
  | nil=>rfl
  | cons=>simp at hl
 | x :: r,vs,sK,h,hl,hd=>by
  simp only [bd] at h ⊢
  obtain ⟨v,vs1,rfl,h1,h2⟩:=h
  cases sK with
  | nil=>simp at hl
  | cons v' atr =>
   refine ⟨v',atr,rfl,?_,acC h2 (by simpa using hl) λd=>by simpa using hd (d+1)⟩
   rcases hd 0 with h|h
   ·simp at h;subst h;simp only [rel]
   ·simp at h;subst h;exact h1
theorem adv:∀(ds:List Nat) {t:List SV} {d:Nat},d∉ds->(ng ds t)[d]?=t[d]?
 | [],_,_,_=>rfl
 | d' :: r,t,d,h=>by
  rw [ng,adv r (λh'=>h (by simp [h'])),eY (λe=>h (by simp [e]))]
theorem adw:∀(ds:List Nat) {t:List SV} {d:Nat},(ng ds t)[d]?=some .any\/(ng ds t)[d]?=t[d]?
 | [],_,_=>.inr rfl
 | d' :: r,t,d=>by
  rw [ng]
  rcases adw r (t:=t.set d' .any) (d:=d) with h|h
  ·exact .inl h
  ·rw [h,jb]
   split
   ·split
    ·exact .inl rfl
    ·right;rename_i e hn;subst e;simp at hn ⊢;exact hn
   ·exact .inr rfl
theorem acD:∀(ds:List Nat) {t:List SV} {d:Nat} {v:SV},d∉ds->(ng ds t).set d v=ng ds (t.set d v)
 | [],_,_,_,_=>rfl
 | d' :: r,t,d,v,h=>by
  rw [ng,ng,acD r (λh'=>h (by simp [h'])),Tv _ _ (λe=>h (by simp [e]))]
theorem Den.but {ds:List Tmp} {a b:Act} (D:Den f s η H b w) (h:y9 ds a b):Den f ⟨ng ds s.t,s.b⟩ η H a w:={ D with
 t:=by
  have h1:=TN ds D.t
  refine acC h1 (by simp [h.z]) λd=>?_
  by_cases hd:d∈ds
  ·by_cases hl:d < s.t.length
   ·exact .inl (T7 ds hd hl)
   ·right
    have h2:b.tmps.size=s.t.length:=by have:=jZ D.t;simpa using this
    rw [mA (by simp [h2];omega),mA (by simp [h.z,h2];omega)]
  ·right
   have:=h.t d hd
   simpa using this.symm
 d:=by rw [h.d];exact D.d }
def rR:List (Nat × Oper × Nat)->List Tmp
 | []=>[]
 | x :: r=>match x.2.1.dst with
  | some d=>d :: rR r
  | none=>rR r
theorem Ka:∀{L:List (Nat × Oper × Nat)} {d:Tmp},d∈rR L↔∃x∈L,x.2.1.dst=some d
 | [],d=>by simp [rR]
 | x :: r,d=>by
  unfold rR
  split
  ·rename_i d' nq
   rw [ez,Ka]
   constructor
   ·rintro (rfl|⟨y,hy,h⟩)
    ·exact ⟨x,by simp,nq⟩
    ·exact ⟨y,by simp [hy],h⟩
   ·rintro ⟨y,hy,h⟩
    rcases ez.1 hy with rfl|hy
    ·rw [nq] at h;simp at h;exact .inl h.symm
    ·exact .inr ⟨y,hy,h⟩
  ·rename_i nq
   rw [Ka]
   constructor
   ·rintro ⟨y,hy,h⟩;exact ⟨y,by simp [hy],h⟩
   ·rintro ⟨y,hy,h⟩
    rcases ez.1 hy with rfl|hy
    ·rw [nq] at h;cases h
    ·exact ⟨y,hy,h⟩
def Lo (X:Ctx) (s:St) (o:Oper):Prop:=match o.dst with
 | some d=>match eP X s 0 o.op with
  | .pure v []=>s.t[d]?=some v
  | _=>False
 | none=>False
def PG (X:Ctx):List Oper->St->Prop
 | [],_=>True
 | o :: r,s=>Lo X s o/\PG X r s
theorem abD:∀{os:List Oper} {s:St},PG X os s->∀o∈os,Lo X s o
 | [],_,_,o,h=>by cases h
 | x :: r,s,h,o,ho=>by
  rcases ez.1 ho with rfl|ho
  ·exact h.1
  ·exact abD h.2 o ho
theorem acE (C:X.Ok P) {ops:Array Oper} {k:St->Prop}:∀(A:List (Nat × Oper × Nat)) {s:St} {η:Nat->Value} {H:bR} {a:Act},(∀x∈A,su x.2.1=true)->Den f s η H a w->kV X ops.toList (ol A) s k ->
  ∃s1 a1 η1 H1,Den f s1 η1 H1 a1 w/\k s1/\y9 (rR A) a a1
 | [],s,η,H,a,_,D,h=>⟨s,a,η,H,D,h,⟨rfl,rfl,λ_ _=>rfl⟩⟩
 | x :: A,s,η,H,a,hl,D,h=>by
  obtain ⟨s1,h1,h2⟩:=uZ.1 h
  obtain ⟨u,η1,H1,D1⟩:=aoe C D (hl x (by simp)) h1
  obtain ⟨s2,a2,η2,H2,D2,hk,hs⟩:=acE C A (λy hy=>hl y (by simp [hy])) D1 h2
  refine ⟨s2,a2,η2,H2,D2,hk,?_⟩
  obtain ⟨d,hd⟩:=acB (hl x (by simp))
  have pE:rR (x :: A)=d :: rR A:=by simp only [rR,hd]
  rw [hd] at hs
  refine ⟨by rw [<-hs.d];rfl,by rw [<-hs.z];simp [Act.put],λt ht=>?_⟩
  rw [pE] at ht
  rw [<-hs.t t (λh=>ht (by simp [h]))]
  simp only [Act.put]
  rw [S1 (λe=>ht (by simp [e]))]
theorem aaJ {ops:List Oper} {k:St->Prop}:∀(L1:List (Oper × Nat)) {L2:List (Oper × Nat)} {s:St},kV X ops L1 s (λs1=>kV X ops L2 s1 k)->kV X ops (L1++L2) s k
 | [],_,_,h=>h
 | x :: L1,L2,s,h=>by
  obtain ⟨s1,h1,h2⟩:=uZ.1 h
  exact uZ.2 ⟨s1,h1,aaJ L1 h2⟩
theorem aa4 {ops:List Oper} {k:St->Prop} {s:St}:∀(A:List (Nat × Oper × Nat)),(∀x∈A,su x.2.1=true/\Lo X s x.2.1)->(∀x∈A,∀d,x.2.1.dst=some d->d∉lZ x.2.1.op) ->
  A.Pairwise (λx y=>∀d,y.2.1.dst=some d->d∉lZ x.2.1.op/\x.2.1.dst≠some d)->k s->kV X ops (ol A) ⟨ng (rR A) s.t,s.b⟩ k
 | [],_,_,_,h=>h
 | x :: A,hl,Fb,hp,h=>by
  rw [lX] at hp
  obtain ⟨qj,cI⟩:=hl x (by simp)
  obtain ⟨d,hd⟩:=acB qj
  have pE:rR (x :: A)=d :: rR A:=by simp only [rR,hd]
  have gG:d∉rR A:=λhm=>by
   obtain ⟨y,hy,Ga⟩:=Ka.1 hm
   exact (hp.1 y hy d Ga).2 hd
  unfold Lo at cI
  rw [hd] at cI
  simp only at cI
  split at cI<;>try exact cI.elim
  rename_i v hv
  rw [pE]
  refine uZ.2 ⟨⟨ng (rR A) s.t,s.b⟩,?_,aa4 A (λy hy=>hl y (by simp [hy])) (λy hy=>Fb y (by simp [hy])) hp.2 h⟩
  unfold Out xY
  rw [amN qj]
  refine ⟨v,[],?_,?_⟩
  ·rw [aof qj,aal X (s:=⟨ng (d :: rR A) s.t,s.b⟩) (s':=s) 0 x.2.1.op (λt ht=>?_) rfl,hv]
   ·exact ⟨rfl,rfl⟩
   ·refine adv _ λhm=>?_
    rcases ez.1 hm with rfl|hm
    ·exact Fb x (by simp) _ hd ht
    ·obtain ⟨y,hy,Ga⟩:=Ka.1 hm
     exact (hp.1 y hy t Ga).1 ht
  ·unfold St.gq
   rw [hd]
   simp only [m9]
   rw [ng,acD _ gG,Od,Ov _ _ _ cI]
def Hq (ops:List Oper) (i:Nat):List Oper:=((ops.take i).zipIdx.filter λp=>!((CI ops []).getD i 0).testBit p.2).map (·.1)
def aeB (ops:List Oper) (h p:Oper) (j:Nat):Bool:=su p&&match p.dst with
 | some d=>!(lZ h.op).contains d&&(!(lZ p.op).contains d&&(ops.take j).all λq=>!(lZ q.op).contains d&&q.dst != some d)
 | none=>false
def Pd (ops:List Oper) (i:Nat):Bool:=match ops[i]? with
 | some h=>h.guard.isNone&&((match h.op with
  | .call c=>match c.callee with
   | .value (.func _)=>true
   | _=>false
  | _=>false)&&(((ops.take i).zipIdx.all λp=>((CI ops []).getD i 0).testBit p.2||aeB ops h p.1 p.2) &&
   ((ops.drop (i+1)).zipIdx.all λp=>((CI ops []).getD (i+1+p.2) 0).testBit i)))
 | none=>false
structure ag9 (ops:List Oper) (i:Nat) (h:Oper):Prop where
 at_:ops[i]?=some h
 guard:h.guard=none
 call:∃c g,h.op=.call c/\c.callee=.value (.func g)
 zB:∀j p,j < i->ops[j]?=some p->oL ops j i\/(su p=true/\p∈Hq ops i/\∀d,p.dst=some d->d∉lZ h.op/\d∉lZ p.op/\∀j' q,j' < j->ops[j']?=some q->d∉lZ q.op/\q.dst≠some d)
 back:∀j o,i < j->ops[j]?=some o->oL ops i j
theorem amq {ops:List Oper} {i:Nat} (h:Pd ops i=true):∃o,ag9 ops i o:=by
 have hm:=SW ops ops [] [] rfl rfl (λi j h=>by simp at h)
 unfold Pd at h
 split at h
 ·rename_i o ho
  simp only [er,S5] at h
  obtain ⟨h1,h2,h3,h4⟩:=h
  refine ⟨o,ho,h1,?_,λj p hj hp=>?_,λj q hj hq=>?_⟩
  ·split at h2
   ·rename_i c hc
    split at h2
    ·rename_i g hg;exact ⟨c,g,hc,hg⟩
    ·cases h2
   ·cases h2
  ·have eS:(p,j)∈(ops.take i).zipIdx:=by
    rw [Hb,NX hj]
    exact hp
   have:=m8.1 h3 (p,j) eS
   simp only [v5] at this
   cases hb:((CI ops []).getD i 0).testBit j with
   | true=>exact .inl (hm i j hb)
   | false =>
    right
    rcases this with h|h
    ·rw [hb] at h;cases h
    unfold aeB at h
    simp only [er] at h
    refine ⟨h.1,?_,λd hd=>?_⟩
    ·unfold Hq
     exact kf.2 ⟨(p,j),xG.2 ⟨eS,by simp only [hb];rfl⟩,rfl⟩
    ·have h5:=h.2
     rw [hd] at h5
     simp only [er] at h5
     refine ⟨by simpa using h5.1,by simpa using h5.2.1,λj' q F8 hq=>?_⟩
     have h6:=m8.1 h5.2.2 q (by
      refine cb (i:=j') ?_
      rw [NX F8];exact hq)
     simp only [er] at h6
     exact ⟨by simpa using h6.1,by simpa using h6.2⟩
  ·have eS:(q,j - (i+1))∈(ops.drop (i+1)).zipIdx:=by
    rw [Hb,lK,show i+1+(j - (i+1))=j by omega]
    exact hq
   have:=m8.1 h4 _ eS
   simp only at this
   rw [show i+1+(j - (i+1))=j by omega] at this
   exact hm j i this
 ·cases h
def VI (X:Ctx) (call:sA) (S:List SV) (ops:List Oper) (i:Nat) (s:St) (k:St->Prop):Prop:=match ops[i]? with
 | none=>False
 | some h=>match afC ops s with
  | false=>False
  | true=>kV X ops ((fx ops s.b.length).take i) { s with b:=s.b++jC (rG ops) } λs1 =>
   Bx X call S h 0 s1 λs2=>match Fa ((fx ops s.b.length).drop (i+1)) s2.b&&CU ops (ta ops (fx ops s.b.length) s2) ops with
    | true=>PG X (Hq ops i) s2/\kV X ops ((fx ops s.b.length).drop (i+1)) s2 k
    | false=>False
section
variable {P:Program} {X:Ctx} {f f1:Fr} {s:St} {η:Nat->Value} {H:bR} {a a':Act} {w:World} {o:Oper}
theorem aog {ds:List Nat} {s:St} {t:Tmp} {l:Nat} (h:iS ⟨ng ds s.t,s.b⟩ t=some l):iS s t=some l:=by
 unfold iS at h ⊢
 rcases adw ds (t:=s.t) (d:=t) with h1|h1
 ·simp only [h1,n6] at h
  cases h
 ·simpa only [h1] using h
theorem amO (C:X.Ok P) (I:px X) {call:sA} (CO:AS P X call) {r:Bool} {F:Fence} (RR:RF r F) {ops:Array Oper} (O:Ordered ops.toList) {hh:Nat × Oper × Nat} (B:ag9 ops.toList hh.1 hh.2.1) (hs:xI ops.toList=true) {Q0:Act->World->Prop} {k k1:St->Prop}
  (hk:∀s' η' H' a' w',Den f s' η' H' a' w'->k s'->wT Q0 .normal a' w') {R:List (Nat × Oper × Nat)} (wG:∀y∈R,hh.1 < y.1) (yq:∀y∈R,ops[y.1]?=some y.2.1)
  (eX:∀s2,k1 s2->∃Ks,mG ops s2 R/\(∀ds,rK ops.toList Ks ⟨ng ds s2.t,s2.b⟩)/\(∀y:Nat × Oper × Nat,ops[y.1]?=some y.2.1->su y.2.1=true->wy ops.toList Ks y.2.1 y.2.2)/\(∀y∈R,wy ops.toList Ks y.2.1 y.2.2)/\(∀q∈Hq ops.toList hh.1,Lo X s2 q)/\kV X ops.toList (ol R) s2 k) :
  ∀(n:Nat) (A:List (Nat × Oper × Nat)) {dR:Array Bool} {Ks:Tmp->List Nat} {s:St} {η:Nat->Value} {H:bR} {a:Act} {w:World},A.length+R.length+1=n->(∀y∈A,y.1 < hh.1)->mG ops s A->rK ops.toList Ks s->(∀y∈A,wy ops.toList Ks y.2.1 y.2.2) ->
   qc ops (A++hh :: R) dR->Den f s η H a w->kV X ops.toList (ol A) s (λs1=>Bx X call f.sS hh.2.1 0 s1 k1)->wpAnyIn F 0 P .any ops (wT Q0) n dR a w:=by
 intro n
 induction n with
 | zero=>intro A _ _ _ _ _ _ _ hn;omega
 | succ n ih =>
  intro A dR Ks s η H a w hn Fu W FA hL Li D h
  have yp:ops[hh.1]?=some hh.2.1:=by simpa using B.at_
  have qU:∀y∈A++hh :: R,ops[y.1]?=some y.2.1:=by
   intro y hy
   rcases List.mem_append.1 hy with hy|hy
   ·exact W.get y hy
   ·rcases ez.1 hy with rfl|hy
    ·exact yp
    ·exact yq y hy
  constructor
  ·intro hr
   cases A with
   | nil =>
    have:=qc.first O Li yp
    rw [hr] at this;cases this
   | cons x A =>
    have:=qc.first O (L:=A++hh :: R) Li (W.get x (by simp))
    rw [hr] at this;cases this
  ·intro i hi
   obtain ⟨h0,o,ho,xT⟩:=mem_ready.1 hi
   have aR:=(js.1 ho).1
   obtain ⟨x,hx,rfl⟩:=(Li.list i aR).1 h0
   rcases List.mem_append.1 hx with Yi|yo
   ·
    obtain ⟨A1,A2,rfl⟩:=GY Yi
    have jo:=W.get x (by simp)
    have wW:=qc.step (A:=A1) (B:=A2++hh :: R) (by simpa using Li) hi
    have kg:=oA.1 (oA.1 Li.inc).1
    have hA:∀p∈A1,xS ops.toList p.2.1 x.2.1:=by
     intro p qW
     have oT:=W.get p (by simp [qW])
     rcases O.apart x.1 x.2.1 p.1 p.2.1 (by simpa using jo) (by simpa using oT) (kg.2.2 p qW x (by simp)) with hF|uB
     ·exact absurd rfl (Li.zB hi hF (js.1 oT).1 p (by simp [qW]))
     ·exact NO uB
    have h2:=Kz C x A2 A1 ⟨η,H,a,w,D⟩ FA hL W hA h
    obtain ⟨s1,h3,h4⟩:=uZ.1 h2
    have nH:(A1++x :: A2).Perm (x :: (A1++A2)):=JO
    have eS:x.2.1∈ops.toList:=Array.mem_toList_iff.2 (Az jo)
    have Mm:=FA.out eS (hL x (by simp)) (λf S h=>(C.sp f S h).lr) h3
    have W':=(W.perm nH).tail h3
    have nF:=JU C D jo (λha=>W.un x (by simp) ha) (W.store x (by simp)) h3 (Q:=wT Q0) (K:=λa' w'=>∃η' H',Den f s1 η' H' a' w') λη' H' a' w' D'=>⟨η',H',D'⟩
    unfold wpOp at nF
    unfold wpOpIn
    rw [jo] at nF ⊢
    simp only at nF ⊢
    have fin:∀a' w',(∃η' H',Den f s1 η' H' a' w')->wpAnyIn F 0 P .any ops (wT Q0) n (dR.setIfInBounds x.1 true) a' w':=by
     intro a' w' ⟨η',H',D'⟩
     exact ih (A1++A2) (by simp at hn ⊢;omega) (λy hy=>Fu y (nH.mem_iff.2 (by simp only [ez];exact .inr hy))) W' Mm (λy hy=>hL y (nH.mem_iff.2 (by simp only [ez];exact .inr hy))) (by simpa using wW) D' h4
    by_cases hw:Region.wanted x.2.1 (yielded ops a.tmps)=true
    ·rw [if_pos hw] at nF ⊢
     rcases nF with nF|nF
     ·have gG:y8 x.2.1.op=false:=by
       have:=m8.1 hs x.2.1 eS
       cases cI:ve x.2.1.op
       ·rw [cI] at this;simpa using this
       ·cases fg:x.2.1.op<;>rw [fg] at cI<;>first|rfl|cases cI
      exact Oper.wpIn_mono (λa' w' hq=>fin a' w' hq) (A6 RR gG nF)
     ·exact absurd nF.2 Kl
    ·rw [if_neg hw] at nF ⊢
     exact ⟨λg _=>RR.fn g,fin _ _ nF⟩
   ·rcases ez.1 yo with rfl|yo
    ·
     have zk:∀y∈A,su y.2.1=true/\y.2.1∈Hq ops.toList x.1/\∀d,y.2.1.dst=some d->d∉lZ x.2.1.op/\d∉lZ y.2.1.op/\∀j' q,j' < y.1->ops.toList[j']?=some q->d∉lZ q.op/\q.dst≠some d:=by
      intro y hy
      rcases B.zB y.1 y.2.1 (Fu y hy) (by simpa using W.get y hy) with hF|h
      ·exact absurd rfl (Li.zB hi hF (js.1 (W.get y hy)).1 y (by simp [hy]))
      ·exact h
     obtain ⟨s1,a1,η1,H1,D1,h1,wz⟩:=acE C A (λy hy=>(zk y hy).1) D h
     obtain ⟨c,g,Qq,uE⟩:=B.call
     have Yh:ij x.2.1.op=false:=by
      rw [Qq]
      cases c
      simp only at uE
      subst uE
      rfl
     have lB:ve x.2.1.op=false:=by rw [Qq];rfl
     have gG:y8 x.2.1.op=false:=by rw [Qq];rfl
     have wW:=qc.step (A:=A) (B:=R) Li hi
     unfold wpOpIn
     rw [yp]
     simp only
     rw [if_pos (by simp [Region.wanted,B.guard])]
     refine anp RR wz Qq uE (λt ht hm=>?_) (K:=λa' w'=>∃s2 η' H',Den f s2 η' H' a' w'/\k1 s2) (λe a w he h=>by cases e<;>first|exact absurd rfl he|exact h) Kl (λa2 b2 w' j3 hb=>?_)
      (Ol C I CO RR (s:=s1) D1 (l:=0) (by intro ha;rw [Yh] at ha;cases ha) (by intro ha;rw [lB] at ha;cases ha) gG h1 (Q:=wT Q0) (K:=λa' w'=>∃s2 η' H',Den f s2 η' H' a' w'/\k1 s2) λs' η' H' a' w' D' jU=>⟨s',η',H',D',jU⟩)
     ·obtain ⟨y,hy,Ga⟩:=Ka.1 hm
      exact ((zk y hy).2.2 t Ga).1 ht
     obtain ⟨s2,η2,H2,D2,mO⟩:=hb
     obtain ⟨Ks2,W2,Yk,hL1,Yl,cI,h2⟩:=eX s2 mO
     have D3:=D2.but j3
     have afL:=(oA.1 Li.inc).1
     have hag:=aa4 (X:=X) (ops:=ops.toList) (k:=λs3=>kV X ops.toList (ol R) s3 k) (s:=s2) A (λy hy=>⟨(zk y hy).1,cI _ (zk y hy).2.1⟩) (λy hy d hd=>((zk y hy).2.2 d hd).2.1)
      (afL.imp_of_mem λ{p q} hp hq aR d hd=>((zk q hq).2.2 d hd).2.2 p.1 p.2.1 aR (by simpa using W.get p hp)) h2
     have ats:kV X ops.toList (ol (A++R)) ⟨ng (rR A) s2.t,s2.b⟩ k:=by
      have:=aaJ (ol A) hag
      unfold ol at this ⊢
      rwa [N8]
     refine adu RR hs Kl _ _ _ _ ?_
     refine adr C O hk n (A++R) (by simp at hn ⊢;omega) ⟨λy hy=>?_,λy hy=>?_,λy hy ha=>?_,?_⟩ wW.inc wW.list wW.all wW.down (Yk _) (λy hy=>?_) D3 ats
     ·rcases List.mem_append.1 hy with hy|hy
      ·exact W.get y hy
      ·exact yq y hy
     ·rcases List.mem_append.1 hy with hy|hy
      ·exact W.store y hy
      ·exact W2.store y hy
     ·rcases List.mem_append.1 hy with hy|hy
      ·rw [NR (zk y hy).1] at ha;cases ha
      ·exact W2.un y hy ha
     ·refine oA.2 ⟨afL.imp_of_mem λ{p q} hp hq _ ha _=>?_,W2.ji,λp hp q hq ha _=>?_⟩
      ·rw [NR (zk p hp).1] at ha;cases ha
      ·rw [NR (zk p hp).1] at ha;cases ha
     ·rcases List.mem_append.1 hy with hy|hy
      ·exact hL1 y (W.get y hy) (zk y hy).1
      ·exact Yl y hy
    ·
     have hF:=B.back x.1 x.2.1 (wG x yo) (by simpa using yq x yo)
     exact absurd rfl (Li.zB hi hF (js.1 yp).1 hh (by simp))
theorem amr (C:X.Ok P) (I:px X) {call:sA} (CO:AS P X call) {r:Bool} {F:Fence} (RR:RF r F) {id:Nat} {ops:Array Oper} (hs:xI ops.toList=true) (hd:Ki ops.toList=true) {i:Nat} (hb:Pd ops.toList i=true) {Q:Exit->Act->World->Prop} {k:St->Prop}
  (hk:∀s' η' H' a' w',Den f s' η' H' a' w'->k s'->Q .normal a' w') (D:Den f s η H a w) (h:VI X call f.sS ops.toList i s k):(Code.region id ops true).wpIn F 0 P Q a w:=by
 refine wpIn_mono (Q:=wT (Q .normal)) ?_ (λe a' w' h=>by cases e<;>first|exact h|exact h.elim)
 have hk:∀s' η' H' a' w',Den f s' η' H' a' w'->k s'->wT (Q .normal) .normal a' w':=hk
 have O:=aap hd
 obtain ⟨fg,B⟩:=amq hb
 unfold VI at h
 rw [B.at_] at h
 simp only at h
 split at h
 ·exact h.elim
 rename_i Ib
 let n:=s.b.length
 let s0:St:={ s with b:=s.b++jC (rG ops.toList) }
 have D1:=D.ext (rG ops.toList)
 have D2:Den f s0 η H a { w with drawn:=w.drawn+1 }:=D1.grown (SD w none)
 have W:mG ops s0 (items ops.toList n):=SU hs s
 have hlen:(items ops.toList n).length=ops.size:=by
  have:=congrArg List.length (vV ops.toList n)
  simpa using this
 have Fv:i < ops.size:=by
  have:=(bY.1 B.at_).1
  simpa using this
 have iF:items ops.toList n=(items ops.toList n).take i++(items ops.toList n)[i]'(by rw [hlen];exact Fv) :: (items ops.toList n).drop (i+1):=by
  rw [abg,List.take_append_drop]
 have Ft:∀(j:Nat) (x:Nat × Oper × Nat),(items ops.toList n)[j]?=some x->x.1=j/\ops[j]?=some x.2.1/\(fx ops.toList n)[j]?=some x.2:=by
  intro j x hx
  have h1:=W.get x (cb hx)
  have h2:((items ops.toList n).map (·.1))[j]?=some x.1:=by rw [m7,hx];rfl
  rw [vV,GW (by
   have:=(bY.1 hx).1
   rw [hlen] at this;simpa using this)] at h2
  simp at h2
  have h3:(ol (items ops.toList n))[j]?=some x.2:=by unfold ol;rw [m7,hx];rfl
  rw [AK] at h3
  exact ⟨h2.symm,by rw [h2];exact h1,h3⟩
 have Mn:(items ops.toList n)[i]?=some ((items ops.toList n)[i]'(by rw [hlen];exact Fv)):=ep _
 generalize (items ops.toList n)[i]'(by rw [hlen];exact Fv)=hh at iF Mn
 obtain ⟨IM,Rg,_⟩:=Ft i hh Mn
 have Qp:hh.2.1=fg:=by
  have:ops[i]?=some fg:=by simpa using B.at_
  rw [Rg] at this;simpa using this
 have inc:(items ops.toList n).Pairwise (λx y=>x.1 < y.1):=by
  have h2:((items ops.toList n).map (·.1)).Pairwise (· < ·):=by rw [vV];exact Ta
  rw [yW] at h2
  exact h2
 have Ln:=inc
 rw [iF] at Ln
 have Ic:=oA.1 Ln
 have Ym:ol ((items ops.toList n).take i)=(fx ops.toList n).take i:=by unfold ol;rw [Tw];show (ol (items ops.toList n)).take i=_;rw [AK]
 have Mo:ol ((items ops.toList n).drop (i+1))=(fx ops.toList n).drop (i+1):=by unfold ol;rw [List.map_drop];show (ol (items ops.toList n)).drop (i+1)=_;rw [AK]
 have FA:rK ops.toList (ta ops.toList (fx ops.toList n) s) s0 :=
  ⟨λt A hA l hl=>by
   have hl:iS s t=some l:=hl
   exact JE hA (by simp [EU,hl]),Oj,Kj Ib⟩
 have wG:∀y∈(items ops.toList n).drop (i+1),hh.1 < y.1:=λy hy=>(lX.1 Ic.2.1).1 y hy
 refine wpIn_region_any C.mixed ?_
 refine amO C I CO RR O (by rw [IM,Qp];exact B) hs hk (k1:=λs2=>match Fa ((fx ops.toList s.b.length).drop (i+1)) s2.b&&CU ops.toList (ta ops.toList (fx ops.toList s.b.length) s2) ops.toList with
    | true=>PG X (Hq ops.toList i) s2/\kV X ops.toList ((fx ops.toList s.b.length).drop (i+1)) s2 k
    | false=>False) (R:=(items ops.toList n).drop (i+1)) wG
  (λy hy=>W.get y (sm hy)) (λs2 mO=>?_) ops.size ((items ops.toList n).take i) ?_ (λy hy=>Ic.2.2 y hy hh (by simp)) (W.sub (N2 _ _)) FA
  (λy hy=>Om s y (s4 hy)) ⟨?_,?_,?_,?_⟩ D2 ?_
 ·split at mO
  ·rename_i hq
   simp only [er] at hq
   refine ⟨ta ops.toList (fx ops.toList n) s2,⟨λx hx=>W.get x (sm hx),λx hx=>W.store x (sm hx),λx hx ha=>?_,W.ji.sublist (List.drop_sublist _ _)⟩,
    λds=>⟨λt A hA l hl=>JE hA (by simp [EU,aog hl]),Oj,Kj hq.2⟩,λy hy hl t A _ _ ha _=>(by rw [NR hl] at ha;cases ha),λy hy=>Om s2 y (sm hy),
    λq hq=>abD mO.1 q (by rw [IM] at hq;exact hq),by rw [Mo];exact mO.2⟩
   refine TO hq.1 x.2 ?_ ha
   rw [<-Mo]
   exact GU hx
  ·exact mO.elim
 ·simp only [kB,vY,hlen];omega
 ·rw [<-iF];exact inc
 ·intro j hj
  rw [<-iF]
  have:(Array.replicate ops.size false).getD j true=false:=by simp [hj]
  simp only [this,true_iff]
  have hm:j∈(items ops.toList n).map (·.1):=by rw [vV];simpa using hj
  obtain ⟨x,hx,rfl⟩:=kf.1 hm
  exact ⟨x,hx,rfl⟩
 ·intro j
  by_cases hj:j < ops.size
  ·right;left;simp [hj]
  ·right;right;omega
 ·intro j o e ho hl
  exfalso
  by_cases hj:j < ops.size
  ·simp [hj] at hl
  ·simp [hj] at hl
 ·rw [Ym,Qp];exact h
end
end
def aeC (id:Nat) (k:Exit->St->Prop):Exit->St->Prop
 | .exit i,s=>match Nat.beq i id with
  | true=>k .normal s
  | false=>k (.exit i) s
 | e,s=>k e s
def VJ (s:St) (c:Operand) (x y:St->Prop):Prop :=
 match ev s c with
 | .bc true=>x s
 | .bc false=>y s
 | .b t=>match c with
  | .tmp g=>(Bp t->x { s with t:=s.t.set g (.bc true) })/\(Br t->y { s with t:=s.t.set g (.bc false) })
  | _=>(Bp t->x s)/\(Br t->y s)
 | .nb d p=>match c with
  | .tmp g=>match d with
   | true=>(Hyp p->x { s with t:=s.t.set g (.bc true) })/\y { s with t:=s.t.set g (.bc false) }
   | false=>x { s with t:=s.t.set g (.bc true) }/\(Hyp p->y { s with t:=s.t.set g (.bc false) })
  | _=>False
 | _=>False
def att (k:Exit->St->Prop):uy->St->Prop
 | .ready,s=>k .normal s
 | .ret,s=>k .ret s
 | .exit id,s=>k (.exit id) s
 | .busy,_=>False
def pF (r:Bool) (S:List SV) (lk:Code->St->(Exit->St->Prop)->Prop) (X:Ctx) (call:sA):Code->St->(Exit->St->Prop)->Prop
 | .skip,s,k=>k .normal s
 | .region id ops draw,s,k=>match X.cut id with
  | true=>lk (.region id ops draw) s k
  | false=>match draw with
   | true=>match KU X ops.toList 0 with
    | none=>regionF X ops.toList s λs'=>k .normal s'
    | some i=>match PF X ops.toList i&&Ki ops.toList with
     | true=>WC X call S ops.toList i s λs'=>k .normal s'
     | false=>match Pd ops.toList i&&Ki ops.toList with
      | true=>VI X call S ops.toList i s λs'=>k .normal s'
      | false=>False
   | false=>Lm X call S ops.toList ops.toList s λs'=>k .normal s'
 | .seq x y,s,k=>pF r S lk X call x s λe s'=>match e with
  | .normal=>pF r S lk X call y s' k
  | e=>k e s'
 | .cond c x y,s,k=>VJ s c (λs=>pF r S lk X call x s k) (λs=>pF r S lk X call y s k)
 | .block id x,s,k=>pF r S lk X call x s (aeC id k)
 | .loop x,s,k=>lk (.loop x) s k
 | .scope x,s,k=>pF r S lk X call x s λe s'=>match e with
  | .goto _=>False
  | e=>k e s'
 | .exit id,s,k=>k (.exit id) s
 | .ret,s,k=>k .ret s
 | .rangeFunc g ps ff body,s,k=>match r with
  | true=>False
  | false=>match ev s g with
   | .fn (.func gf) [] cap=>match X.sp gf with
    | some _=>False
    | none=>match X.inl gf with
     | none=>False
     | some fn=>call (.iC s.b.length :: (s.t++S)) (.fn gf fn) (.iC s.b.length :: cap) (s.b++[.eV s.t ps.toList ff body .ready]) λb _=>match b[s.b.length]? with
      | some (.eV _ _ _ _ st)=>att k st { s with b:=b.set s.b.length .dead }
      | _=>False
   | _=>False
 | _,_,_=>False
def zm (X:Ctx) (s:St):List ResultVar->Option (List SV)
 | []=>some []
 | .tmp t :: r=>match zm X s r with
  | some xs=>some ((s.t[t]?).getD .any :: xs)
  | none=>none
 | .cell t ty :: r=>match zm X s r,s.t[t]?,X.tt ty with
  | some xs,some (.ptr l off),some i=>match s.b[l]? with
   | some (.fix e cs)=>match wk i cs off with
    | some v=>some (v :: xs)
    | none=>none
   | _=>none
  | _,_,_=>none
def HM:List SV->SV
 | [x]=>x
 | xs=>.dH xs
def Bh (X:Ctx) (rs:List ResultVar) (k:List Slot->SV->Prop):Exit->St->Prop
 | .normal,s=>match zm X s rs with
  | some xs=>k s.b (HM xs)
  | none=>False
 | .ret,s=>match zm X s rs with
  | some xs=>k s.b (HM xs)
  | none=>False
 | _,_=>False
def x4:Nat->List SV
 | 0=>[]
 | n+1=>.any :: x4 n
def start (args:List SV) (n:Nat) (b:List Slot):St:=⟨args++x4 (n - args.length),b⟩
def EJ (S:List SV) (X:Ctx) (call:sA):Nat->Code->St->(Exit->St->Prop)->Prop
 | 0,_,_,_=>False
 | n+1,c,s,k=>match c with
  | .loop x=>pF false S (EJ S X call n) X call x s λe s'=>match e with
   | .normal=>EJ S X call n (.loop x) s' k
   | e=>k e s'
  | _=>False
def Fc:List Tmp->List SV->List SV->List SV
 | p :: ps,x :: xs,ts=>Fc ps xs (ts.set p x)
 | _,_,ts=>ts
def aha (l:Nat) (K:St->Prop):Exit->St->Prop
 | .normal,s=>match s.b[l]? with
  | some (.eV ts ps ff body .ready)=>K { s with b:=s.b.set l (.eV ts ps ff body .busy) }
  | _=>False
 | _,_=>False
def Qr (l:Nat) (k:List Slot->SV->Prop):Exit->St->Prop
 | .normal,s=>match s.b[l]? with
  | some (.eV ts ps ff body .busy)=>k (s.b.set l (.eV ts ps ff body .ready)) (.bc true)
  | _=>False
 | .ret,s=>match s.b[l]? with
  | some (.eV ts ps ff body .busy)=>k (s.b.set l (.eV ts ps ff body .ret)) (.bc false)
  | _=>False
 | .exit id,s=>match s.b[l]? with
  | some (.eV ts ps ff body .busy)=>k (s.b.set l (.eV ts ps ff body (.exit id))) (.bc false)
  | _=>False
 | _,_=>False
def A8 (P:Unit->Program) (X:Ctx):Nat->sA
 | 0,_,_,_,_,_=>False
 | n+1,S,.fn fid fn,args,b,k=>match X.io fid with
  | true=>bV S P fid args b k
  | false=>match fn.body with
   | some c=>match X.lp fid with
    | true=>pF false S (λc s k=>Sat S false P c s k) X (A8 P X n) c (start args fn.ntmps b) (Bh X fn.results.toList k)
    | false=>pF false S (EJ S X (A8 P X n) 4) X (A8 P X n) c (start args fn.ntmps b) (Bh X fn.results.toList k)
   | none=>False
 | n+1,S,.Mj l,args,b,k=>match b[l]? with
  | some (.eV ts ps ff body .ready)=>match Nat.beq args.length ps.length&&codeOk ff&&codeOk body with
   | true=>pF true S (λc s k=>Sat S true P c s k) X (A8 P X n) ff ⟨Fc ps args ts,b⟩
     (aha l λs=>pF true S (λc s k=>Sat S true P c s k) X (A8 P X n) body s (Qr l k))
   | false=>False
  | _=>False
def yr (S:List SV) (r:Bool) (P:Unit->Program) (X:Ctx) (n:Nat):Code->St->(Exit->St->Prop)->Prop:=pF r S (λc s k=>Sat S r P c s k) X (A8 P X n)
abbrev vc (P:Unit->Program) (X:Ctx) (n:Nat):Code->St->(Exit->St->Prop)->Prop:=yr [] false P X n
section
variable {P:Program} {X:Ctx} {f:Fr} {s:St} {η:Nat->Value} {H:bR} {a:Act} {w:World}
theorem adz:∀n,x4 n=List.replicate n .any
 | 0=>rfl
 | n+1=>by rw [x4,adz n];rfl
theorem Vd (C:X.Ok P) (D:Den f s η H a w):∀(rs:List ResultVar) (xs:List SV),zm X s rs=some xs ->
  ∃vs:List Value,(rs.mapM λ|.tmp t=>pure (a.tmps.getD t undef)|.cell b t=>do loadVar t (<-asAddr (a.tmps.getD b undef)):Sem (List Value)).run P w=.ok vs w/\bd η (bg s.b) H xs vs
 | [],xs,h=>by simp [zm] at h;subst h;exact ⟨[],by simp,by simp [bd]⟩
 | .tmp t :: r,xs,h=>by
  simp only [zm] at h
  split at h
  ·rename_i ys hy
   simp at h;subst h
   obtain ⟨vs,h1,h2⟩:=Vd C D r ys hy
   refine ⟨a.tmps.getD t undef :: vs,?_,?_⟩
   ·rw [JQ]
    simp only [Sem.run_bind,Sem.run_pure,Result.andThen_ok,h1]
   ·simp only [bd];exact ⟨_,_,rfl,D.EH t,h2⟩
  ·cases h
 | .cell t ty :: r,xs,h=>by
  simp only [zm] at h
  split at h
  ·rename_i ys l off i hy ht hi
   split at h
   ·rename_i e cs hs
    split at h
    ·rename_i v hv
     simp at h;subst h
     obtain ⟨vs,h1,h2⟩:=Vd C D r ys hy
     have I:=C.tt _ _ hi
     have hr:=D.EH t
     rw [ht] at hr
     simp only [n6,rel,df hs,Slot.live] at hr
     obtain ⟨bl,g1,g2⟩:=hr
     obtain ⟨mf,us,g3,g4,g5⟩:=D.sl l _ hs
     rw [g1] at g3
     simp at g3;subst g3
     obtain ⟨k1,k2⟩:=J4 I hv g5
     have hl:=aay (P:=P) I w bl off (us.toList.drop off) k1 (λj u hu=>by
      rw [lK] at hu
      rw [cell_of_row w bl (off+j) us e (0,0) g4]
      simpa using hu)
     refine ⟨(if i.agg then .agg ((us.toList.drop off).take i.size).toArray else (us.toList.drop off).getD 0 undef) :: vs,?_,?_⟩
     ·have ha:(asAddr (a.tmps.getD t undef)).run P w=.ok ⟨bl,off,none⟩ w:=by rw [g2];rfl
      rw [JQ]
      simp only [Sem.run_bind,ha,Sem.run_pure,Result.andThen_ok,hl,h1]
     ·simp only [bd];exact ⟨_,_,rfl,k2,h2⟩
    ·cases h
   ·cases h
  ·cases h
theorem amP (C:X.Ok P) (D:Den f s η H a w) {fn:Func} {xs:List SV} (h:zm X s fn.results.toList=some xs) :
  ∃v,(results fn a.tmps).run P w=.ok v w/\rel η (bg s.b) H (HM xs) v:=by
 obtain ⟨vs,h1,h2⟩:=Vd C D _ xs h
 have hm:(fn.results.mapM λ|.tmp t=>pure (a.tmps.getD t undef)|.cell b t=>do loadVar t (<-asAddr (a.tmps.getD b undef)):Sem (Array Value)).run P w=.ok vs.toArray w:=by
  rw [aba,map_eq_pure_bind,Sem.run_bind]
  erw [h1]
  rfl
 have hl:=jZ h2
 refine ⟨if h:vs.toArray.size=1 then vs.toArray[0] else .tuple vs.toArray,?_,?_⟩
 ·unfold results
  rw [Sem.run_bind]
  erw [hm]
  rfl
 ·unfold HM
  split
  ·rename_i x
   simp only [bd] at h2
   obtain ⟨u,us,rfl,h3,rfl⟩:=h2
   simpa using h3
  ·rename_i cT
   have:¬vs.toArray.size=1:=by
    intro e
    simp at e
    rw [e] at hl
    cases xs with
    | nil=>simp at hl
    | cons x r=>cases r with
     | nil=>exact cT x rfl
     | cons _ _=>simp at hl
   rw [dif_neg this]
   simp only [rel]
   exact ⟨vs,rfl,h2⟩
theorem ams (D:Den f s η H a w) {c:Operand} {x y:St->Prop} (h:VJ s c x y):∃t s0,a.eval c=.bool t/\Den f s0 η H a w/\(if t then x s0 else y s0):=by
 have hc:=D.ev c
 unfold VJ at h
 split at h
 ·rename_i e;rw [e] at hc;simp only [rel] at hc;exact ⟨true,s,hc,D,h⟩
 ·rename_i e;rw [e] at hc;simp only [rel] at hc;exact ⟨false,s,hc,D,h⟩
 ·rename_i t e
  rw [e] at hc;simp only [rel] at hc
  split at h
  ·rename_i g
   have hg:s.t[g]?=some (.b t):=by
    simp only [ev] at e
    cases hq:s.t[g]? with
    | none=>rw [hq] at e;cases e
    | some z=>rw [hq] at e;simp at e;rw [e]
   obtain ⟨D0,_⟩:=D.guard hg (v:=.bc (t ())) rfl
   cases hb:t ()
   ·rw [hb] at D0 hc;exact ⟨false,_,hc,D0,h.2 ⟨hb⟩⟩
   ·rw [hb] at D0 hc;exact ⟨true,_,hc,D0,h.1 ⟨hb⟩⟩
  ·cases hb:t ()
   ·rw [hb] at hc;exact ⟨false,s,hc,D,h.2 ⟨hb⟩⟩
   ·rw [hb] at hc;exact ⟨true,s,hc,D,h.1 ⟨hb⟩⟩
 ·rename_i d p e
  split at h<;>first|exact h.elim|skip
  rename_i g
  have hg:s.t[g]?=some (.nb d p):=by
   simp only [ev] at e
   cases hq:s.t[g]? with
   | none=>rw [hq] at e;cases e
   | some z=>rw [hq] at e;simp at e;rw [e]
  obtain ⟨c,hv,hp⟩:=D.aev hg
  have D0:=D.aew hg (v:=.bc c) (by simp only [rel];exact hv)
  split at h
  ·cases c
   ·exact ⟨false,_,hv,D0,h.2⟩
   ·exact ⟨true,_,hv,D0,h.1 ⟨hp rfl⟩⟩
  ·cases c
   ·exact ⟨false,_,hv,D0,h.2 ⟨hp rfl⟩⟩
   ·exact ⟨true,_,hv,D0,h.1⟩
 ·exact h.elim
theorem SK {F:Fence} {n:Nat} {c:Code} {Q Q':Exit->Act->World->Prop} (h:∀e a w,Q e a w->Q' e a w):∀{m:Nat} {a:Act} {w:World},Code.roundsIn F n P c Q m a w->Code.roundsIn F n P c Q' m a w
 | 0,_,_,x=>x.elim
 | m+1,a,w,x=>wpIn_mono x λe a w y=>by
  cases e with
  | normal=>exact SK h y
  | _=>exact h _ _ _ y
theorem vW {r:Bool} {S:List SV} {lk:Code->St->(Exit->St->Prop)->Prop} (C:X.Ok P) (I:px X) {call:sA} (CO:AS P X call)
  (LK:∀c s k,codeOk c=true->lk c s k->Ia S r P c s k) :
  ∀(c:Code) (s:St) (k:Exit->St->Prop),codeOk c=true->pF r S lk X call c s k->Ia S r P c s k
 | .skip,s,k,_,h,F,R,f,η,H,a,w,hS,D=>wpIn_skip (sy.of D h)
 | .region id ops draw,s,k,hc,h,F,R,f,η,H,a,w,hS,D=>by
  have mL:=hc
  simp only [codeOk,er,v5,p8] at hc
  simp only [pF] at h
  split at h
  ·exact LK _ s k mL h F R f η H a w hS D
  cases draw with
  | true =>
   simp only at h
   split at h
   ·exact al0 C R hc.1 (by rcases hc.2 with h|h;cases h;exact h) (k:=λs'=>k .normal s') (λs' η' H' a' w' D' hk=>sy.of D' hk) D h
   ·split at h
    ·rename_i Fw
     rw [er] at Fw
     subst hS
     exact amK C I CO R hc.1 Fw.2 Fw.1 (k:=λs'=>k .normal s') (λs' η' H' a' w' D' hk=>sy.of D' hk) D h
    ·split at h<;>try exact h.elim
     rename_i Fw
     rw [er] at Fw
     subst hS
     exact amr C I CO R hc.1 Fw.2 Fw.1 (k:=λs'=>k .normal s') (λs' η' H' a' w' D' hk=>sy.of D' hk) D h
  | false =>
   refine wpIn_region ?_
   subst hS
   have:=NQ C I CO R hc.1 (Q:=sy r f k) (k:=λs'=>k .normal s') (λs' η' H' a' w' D' hk=>sy.of D' hk) ops.toList 0 (λj=>by simp) D h
   rw [List.range_eq_range']
   simpa using this
 | .seq x y,s,k,hc,h,F,R,f,η,H,a,w,hS,D=>by
  simp only [codeOk,er] at hc
  simp only [pF] at h
  refine wpIn_seq ?_
  refine wpIn_mono (vW C I CO LK x s _ hc.1 h F R f η H a w hS D) ?_
  rintro e a' w' ⟨f',s',η',H',E,D',hk⟩
  cases e with
  | normal=>exact wpIn_mono (vW C I CO LK y s' k hc.2 hk F R f' η' H' a' w' (E.sS.trans hS) D') λe a w p=>p.up E
  | _=>exact ⟨f',s',η',H',E,D',hk⟩
 | .cond c x y,s,k,hc,h,F,R,f,η,H,a,w,hS,D=>by
  simp only [codeOk,er] at hc
  simp only [pF] at h
  obtain ⟨t,s0,h1,D0,h2⟩:=ams D h
  refine wpIn_cond h1 ?_
  cases t with
  | true=>exact vW C I CO LK x s0 k hc.1 h2 F R f η H a w hS D0
  | false=>exact vW C I CO LK y s0 k hc.2 h2 F R f η H a w hS D0
 | .block id x,s,k,hc,h,F,R,f,η,H,a,w,hS,D=>by
  simp only [codeOk] at hc
  simp only [pF] at h
  refine wpIn_block ?_
  refine wpIn_mono (vW C I CO LK x s _ hc h F R f η H a w hS D) ?_
  rintro e a' w' ⟨f',s',η',H',E,D',hk⟩
  cases e with
  | exit i =>
   simp only [aeC] at hk
   simp only [Exit.inBlock]
   split at hk
   ·rename_i he
    rw [if_pos (pe he)]
    exact ⟨f',s',η',H',E,D',hk⟩
   ·rename_i he
    rw [if_neg (tW he)]
    exact ⟨f',s',η',H',E,D',hk⟩
  | _=>exact ⟨f',s',η',H',E,D',hk⟩
 | .loop x,s,k,hc,h,F,R,f,η,H,a,w,hS,D=>by
  simp only [pF] at h
  exact LK _ _ _ hc h F R f η H a w hS D
 | .scope x,s,k,hc,h,F,R,f,η,H,a,w,hS,D=>by
  simp only [codeOk] at hc
  simp only [pF] at h
  refine alR ?_
  refine wpIn_mono (vW C I CO LK x s _ hc h F R f η H a w hS D) ?_
  rintro e a' w' ⟨f',s',η',H',E,D',hk⟩
  cases e with
  | goto l=>exact hk.elim
  | _=>exact ⟨f',s',η',H',E,D',hk⟩
 | .exit id,s,k,_,h,F,R,f,η,H,a,w,hS,D=>wpIn_exit (sy.of D h)
 | .ret,s,k,_,h,F,R,f,η,H,a,w,hS,D=>wpIn_ret (sy.of D h)
 | .rangeFunc g ps ff body,s,k,hc,h,F,R,f,η,H,a,w,hS,D=>by
  simp only [pF] at h
  split at h
  ·exact h.elim
  split at h<;>try exact h.elim
  rename_i gf cap hv
  split at h
  ·exact h.elim
  split at h
  ·exact h.elim
  rename_i fn Dp
  have R:F=_:=R
  subst R
  subst hS
  have G:=C.inl _ _ Dp
  have sN:=D.ev g
  rw [hv] at sN
  simp only [rel] at sN
  obtain ⟨fs,cs,h1,h2,h3⟩:=sN
  simp only [bd] at h2
  subst h2
  refine wpIn_rangeFunc λcfn _=>?_
  let w1:=w.alloc (.deferred (some []))
  let w2:=w1.alloc (.loop { state:=.ready,pending:=none,fn:=cfn,tmps:=a.tmps,params:=ps,assign:=ff,body,defers:=w.heap.size })
  obtain ⟨D1,E1⟩:=D.mark
  have D2:=D1.ext 1
  have ef:w1.heap.size=w.heap.size+1:=World.size_alloc _ _
  let η':=n7 η s.b.length (.pointer (some ⟨w.heap.size+1,0,none⟩))
  have nt:(s.b++jC 1)[s.b.length]?=some .un:=by simp [jC]
  have zx:(s.b++jC 1).set s.b.length (.eV s.t ps.toList ff body .ready)=s.b++[.eV s.t ps.toList ff body .ready]:=by simp [jC]
  have D3:=D2.change (w':=w2) (η':=η') (l:=s.b.length) (x:=.eV s.t ps.toList ff body .ready) none (b':=s.b++[.eV s.t ps.toList ff body .ready]) zx.symm
   (λk hk=>lJ _ _ _ k hk) (.inl nt) rfl (λ_ h=>by cases h) none (World.grownBy_alloc w1 _ none) (λk hk=>by cases hk)
   (λb hb=>.inl (by simp only [η',fZ,dt,u7] at hb;show w1.heap.size<=b;omega))
   (λT=>⟨w.heap.size+1,cfn,a.tmps,w.heap.size,fZ _ _ _,by rw [<-ef];exact World.alloc_heap_new w1 _,ja T (bR.le.refl _) _ _ D2.t⟩)
  have Rd:bg (s.b++[.eV s.t ps.toList ff body .ready]) s.b.length=.live:=by rw [df (x:=.eV s.t ps.toList ff body .ready) (by simp)];rfl
  have Fq:bd η' (bg (s.b++[.eV s.t ps.toList ff body .ready])) H cap cs:=by
   have hT:jJ η η' (bg s.b) (bg (s.b++[.eV s.t ps.toList ff body .ready])):=λk=>by
    by_cases hk:k < s.b.length
    ·have e1:bg (s.b++[.eV s.t ps.toList ff body .ready]) k=bg s.b k:=by unfold bg;rw [nY hk]
     have e2:η' k=η k:=lJ _ _ _ k (by omega)
     cases hq:bg s.b k with
     | un=>trivial
     | dead=>simp only [e1,hq]
     | live=>exact .inl ⟨by rw [e1];exact hq,e2⟩
    ·have e1:bg s.b k=.un:=by unfold bg;rw [mA (by omega)]
     rw [e1];trivial
   exact ja hT (bR.le.refl _) _ _ h3
  have oF:bd η' (bg (s.b++[.eV s.t ps.toList ff body .ready])) H (.iC s.b.length :: cap) (.func (.yield (w.heap.size+1)) #[] #[] :: cs):=by
   simp only [bd]
   refine ⟨_,_,rfl,?_,Fq⟩
   simp only [rel,Rd]
   exact ⟨w.heap.size+1,fZ _ _ _,rfl⟩
  have rV:rel η' (bg (s.b++[.eV s.t ps.toList ff body .ready])) H (.iC s.b.length) (.func (.yield (w.heap.size+1)) #[] #[]):=by
   simp only [rel,Rd]
   exact ⟨w.heap.size+1,fZ _ _ _,rfl⟩
  have arK:=CO.fn _ _ _ _ _ _ Dp h _ η' H _ w2 rfl rfl (D3.afH rV oF)
  refine ⟨w.heap.size+1,[HJ w.heap.size],w2,{ target:=.fn (.func gf) cs.toArray,args:=#[.func (.yield (w.heap.size+1)) #[] #[]] },w2,gf,
   (.func (.yield (w.heap.size+1)) #[] #[] :: cs).toArray,w2,?_,?_,λ_ _=>trivial,?_,RF.nd (r:=false) rfl,RF.calls (r:=false) rfl ?_⟩
  ·exact run_enterLoop_outer _ _ _ _ _
  ·simp only [resolve,h1,Deferred.ofValue]
   simp [Sem.run_bind,Act.eval]
  ·simp only [invoke]
   have:(#[.func (.yield (w.heap.size+1)) #[] #[]]++cs.toArray:Array Value)=(.func (.yield (w.heap.size+1)) #[] #[] :: cs).toArray:=by apply pj;simp
   rw [this]
   exact aak G _ w2
  ·refine arK.mono λe w' ⟨v,b',η2,H2,xv,he,hk,D4,hr⟩=>?_
   subst he
   dsimp only at hk
   split at hk<;>try exact hk.elim
   rename_i ts2 ps2 atu arL st eb
   obtain ⟨D5,hy5⟩:=D3.aey D4
   obtain ⟨bl,fn2,arN,dd,g1,g2,g3⟩:=D5.sl _ _ eb
   have cI:st.state≠.busy:=by
    cases st<;>simp [uy.state]
    exact hk
   have atv:=run_endLoop (P:=P) g2 cI
   have D6:=D5.drop (l:=s.b.length) (bl:=bl) (by show bg b' s.b.length=.live;rw [df eb];rfl) (by rw [g1];rfl) (.loop { state:=.exhausted,pending:=st.Fm,fn:=fn2,tmps:=arN,params:=ps2.toArray,assign:=atu,body:=arL,defers:=dd })
   have hl:bl=w.heap.size+1:=by
    simp only [rel,df eb,Slot.live] at hy5
    obtain ⟨mf,k1,k2⟩:=hy5
    rw [g1] at k1
    simp at k1 k2
    omega
   subst hl
   refine ⟨st.Fm,_,atv,?_⟩
   cases st with
   | ready=>exact ⟨_,_,η2,H2,E1,D6,hk⟩
   | busy=>exact hk.elim
   | ret=>exact wpIn_ret ⟨_,_,η2,H2,E1,D6,hk⟩
   | exit id=>exact wpIn_exit ⟨_,_,η2,H2,E1,D6,hk⟩
 | .label _,s,k,_,h,F,R,f,η,H,a,w,hS,D=>h.elim
 | .goto _,s,k,_,h,F,R,f,η,H,a,w,hS,D=>h.elim
 | .refuse _,s,k,_,h,F,R,f,η,H,a,w,hS,D=>h.elim
theorem aaf {S:List SV} (C:X.Ok P) (I:px X) {call:sA} (CO:AS P X call):∀n,
  (∀c s k,codeOk c=true->EJ S X call n c s k->Ia S false P c s k) /\
  (∀x s k,codeOk x=true->EJ S X call n (.loop x) s k->∀(F:Fence),RF false F->∀(f:Fr) (η:Nat->Value) (H:bR) (a:Act) (w:World),f.sS=S->Den f s η H a w->Code.roundsIn F 0 P x (sy false f k) n a w)
 | 0=>⟨λc s k _ h=>h.elim,λx s k _ h=>h.elim⟩
 | n+1=>by
  have ih:=aaf (S:=S) C I CO n
  have two:∀x s k,codeOk x=true->EJ S X call (n+1) (.loop x) s k->∀(F:Fence),RF false F->∀(f:Fr) (η:Nat->Value) (H:bR) (a:Act) (w:World),f.sS=S->Den f s η H a w ->
    Code.roundsIn F 0 P x (sy false f k) (n+1) a w:=by
   intro x s k hc h F R f η H a w hS D
   rw [roundsIn_succ]
   simp only [EJ] at h
   refine wpIn_mono (vW C I CO ih.1 x s _ hc h F R f η H a w hS D) ?_
   rintro e a' w' ⟨f',s',η',H',E,D',hk⟩
   cases e with
   | normal=>exact SK (λe a w p=>p.up E) (ih.2 x s' k hc hk F R f' η' H' a' w' (E.sS.trans hS) D')
   | _=>exact ⟨f',s',η',H',E,D',hk⟩
  refine ⟨λc s k hc h F R f η H a w hS D=>?_,two⟩
  cases c<;>try exact h.elim
  rename_i x
  exact wpIn_loop_rounds (n+1) (two x s k hc h F R f η H a w hS D)
theorem Hh (C:X.Ok P) {fid:FuncId} {fn:Func} {c:Code} (G:oa P fid fn) (hb:fn.body=some c) {args:List SV} {b:List Slot} {k:List Slot->SV->Prop} {S:List SV}
  (h:Ia S false P c (start args fn.ntmps b) (Bh X fn.results.toList k)) (f:Fr) (η:Nat->Value) (H:bR) (a:Act) (w:World) (hS:f.sS=S) (hd:f.dS=[]) (D:Den f ⟨args,b⟩ η H a w):Calls P fid a.tmps w (CW f k):=by
 have D':Den f (start args fn.ntmps b) η H { tmps:=a.tmps++Array.replicate (fn.ntmps - a.tmps.size) undef,defers:=[] } w:=by
  have hl:=jZ D.t
  simp only [AF] at hl
  exact { D with
   t:=by
    unfold start
    simp only [Array.toList_append,Array.toList_replicate]
    refine jG D.t ?_
    rw [adz,hl]
    exact al4 _ _ (by simp)
   d:=by rw [hd];rfl }
 refine (callsIn_wide (n:=0)).1 (callsIn_of_wp_marks G.get hb trivial (wpIn_mono (h Fence.wide rfl f η H _ w hS D') ?_))
 rintro e a' w' ⟨f',s',η',H',E,D2,hk⟩
 have fin:∀xs,zm X s' fn.results.toList=some xs->k s'.b (HM xs)->LeavesInM Fence.wide 0 P fn a'.tmps (CW f k) a'.defers .returning w':=by
  intro xs hx hk
  obtain ⟨ms,h1,h2,h3,h4⟩:=D2.shut E hd
  have D3:=h4 _ D2.t
  rw [h1]
  refine aaq h3 h2 ?_
  obtain ⟨v,g1,g2⟩:=amP C D3 hx
  refine ⟨v,g1,v,s'.b,η',H',HM xs,rfl,hk,{ D3 with t:=by simp [bd],d:=by rw [hd];rfl },g2⟩
 cases e with
 | normal =>
  simp only [Bh] at hk
  split at hk
  ·rename_i xs hx;exact fin xs hx hk
  ·exact hk.elim
 | ret =>
  simp only [Bh] at hk
  split at hk
  ·rename_i xs hx;exact fin xs hx hk
  ·exact hk.elim
 | _=>exact hk.elim
theorem aoh (ps:Array Tmp) (vs us:Array Value):(ps.zip vs).foldl (λtmps (t,a)=>tmps.setIfInBounds t a) us=(ps.toList.zip vs.toList).foldl (λtmps (t,a)=>tmps.setIfInBounds t a) us:=by
 rw [<-Array.foldl_toList,Array.toList_zip]
theorem acF {q:Nat->Live}:∀(ps:List Tmp) (xs:List SV) (vs:List Value) (ts:List SV) (us:Array Value),bd η q H xs vs->bd η q H ts us.toList ->
  bd η q H (Fc ps xs ts) ((ps.zip vs).foldl (λtmps (t,a)=>tmps.setIfInBounds t a) us).toList
 | [],xs,vs,ts,us,hx,ht=>by simpa [Fc] using ht
 | p :: ps,[],vs,ts,us,hx,ht=>by
  simp only [bd] at hx
  subst hx
  simpa [Fc] using ht
 | p :: ps,x :: xs,vs,ts,us,hx,ht=>by
  simp only [bd] at hx
  obtain ⟨v,sK,rfl,h1,h2⟩:=hx
  have:=acF ps xs sK (ts.set p x) (us.setIfInBounds p v) h2 (by simpa using yZ ht p h1)
  simpa [Fc] using this
theorem Den.Pe (D:Den f s η H a w) {l:Nat} {S:List SV} (hS:f.sS=.iC l :: S) {ts:List SV} {ps:List Tmp} {ff body:Code} {st:uy} (hb:s.b[l]?=some (.eV ts ps ff body st)) :
  ∃bl fn tmps d V,f.sV=.func (.yield bl) #[] #[] :: V/\η l=.pointer (some ⟨bl,0,none⟩) /\
   w.heap[bl]?=some (.loop { state:=st.state,pending:=st.Fm,fn,tmps,params:=ps.toArray,assign:=ff,body,defers:=d })/\bd η (bg s.b) H ts tmps.toList:=by
 obtain ⟨bl,fn,tmps,d,g1,g2,g3⟩:=D.sl l _ hb
 have h:=D.sv
 rw [hS] at h
 simp only [bd] at h
 obtain ⟨y,V,e,h1,h2⟩:=h
 simp only [rel,df hb,Slot.live] at h1
 obtain ⟨mf,k1,k2⟩:=h1
 rw [g1] at k1
 simp at k1
 subst k1
 exact ⟨bl,fn,tmps,d,V,by rw [e,k2],g1,g2,g3⟩
theorem Den.adA (D:Den f s η H a w) {l:Nat} {S:List SV} (hS:f.sS=.iC l :: S) {ts:List SV} {ps:List Tmp} {ff body:Code} {st:uy} (hb:s.b[l]?=some (.eV ts ps ff body st)) (gH:uy) :
  ∃bl rec V,f.sV=.func (.yield bl) #[] #[] :: V/\w.heap[bl]?=some (.loop rec)/\rec.state=st.state /\
   Den f { s with b:=s.b.set l (.eV ts ps ff body gH) } η H a (w.putObj bl (.loop { rec with state:=gH.state,pending:=gH.Fm })):=by
 obtain ⟨bl,fn,tmps,d,V,e,g1,g2,g3⟩:=D.Pe hS hb
 refine ⟨bl,_,V,e,g2,rfl,?_⟩
 refine D.Qm hb rfl rfl (by rw [g1];rfl) _ λT=>⟨bl,fn,tmps,d,g1,?_,ja T (bR.le.refl _) _ _ g3⟩
 exact World.putObj_heap_same (js.1 g2).1
theorem acG {P:Unit->Program} (C:X.Ok (P ())) (I:px X):∀n,AS (P ()) X (A8 P X n)
 | 0=>⟨λ_ _ _ _ _ _ _ h=>h.elim,λ_ _ _ _ _ h=>h.elim⟩
 | n+1=>by
  have ih:=acG C I n
  constructor
  ·intro S fid fn args b k Dp h f η H a w hS hd D
   have G:=C.inl _ _ Dp
   have Dq:=I _ _ Dp
   simp only [A8] at h
   split at h
   ·exact h.out f η H a w hS hd D
   split at h
   ·rename_i c hb
    unfold p9 at Dq
    rw [hb] at Dq
    split at h
    ·exact Hh C G hb (vW C I ih (λc s k _ h=>h.out) c _ _ Dq h) f η H a w hS hd D
    ·exact Hh C G hb (vW C I ih (aaf C I ih 4).1 c _ _ Dq h) f η H a w hS hd D
   ·exact h.elim
  ·intro S l args b k h f η H a w hS hd D
   simp only [A8] at h
   split at h<;>try exact h.elim
   rename_i ts ps ff body hb
   split at h<;>try exact h.elim
   rename_i Ri
   simp only [er] at Ri
   obtain ⟨⟨hlen,lC⟩,oS⟩:=Ri
   have hlen:=pe hlen
   obtain ⟨bl,fn,tmps,d,V,e,g1,g2,g3⟩:=D.Pe hS hb
   have hl:=jZ D.t
   simp only [AF] at hl
   refine ⟨bl,_,g1,by rw [df hb];rfl,g2,by simp [hl,hlen],λr F R=>roundIn_of_wpIn (R.fn fn) ?_⟩
   have D0:Den f ⟨Fc ps args ts,b⟩ η H { tmps:=(ps.toArray.zip a.tmps).foldl (λtmps (t,a)=>tmps.setIfInBounds t a) tmps,defers:=[] } w :=
    { D with
     t:=by rw [aoh];exact acF ps args a.tmps.toList ts tmps D.t g3
     d:=by rw [hd];rfl }
   refine wpIn_mono (vW C I ih (λc s k _ h=>h.out) ff _ _ lC h (F.inRound bl) (R.inRound bl) f η H _ w hS D0) ?_
   rintro ee a1 w1 ⟨f1,s1,η1,H1,E1,D1,hk⟩
   obtain rfl:=E1.eq
   cases ee<;>try exact hk.elim
   simp only [aha] at hk
   split at hk<;>try exact hk.elim
   rename_i ts1 ps1 atw arO jL
   obtain ⟨bl1,ahb,V1,e1,k1,k2,D2⟩:=D1.adA hS jL .busy
   rw [e] at e1
   simp at e1
   obtain ⟨rfl,rfl⟩:=e1
   have atx:=run_beginRound (P:=P ()) k1 k2
   obtain ⟨_,_,_,_,_,_,_,k4,_⟩:=D1.Pe hS jL
   refine ⟨_,atx,?_⟩
   have arP:ahb.pending=none:=by
    obtain ⟨mf,fn',aAK,d',V',e',g1',Yb,g3'⟩:=D1.Pe hS jL
    rw [e] at e'
    simp at e'
    obtain ⟨rfl,_⟩:=e'
    rw [Yb] at k1
    simp at k1
    rw [<-k1];rfl
   have D2':Den f1 { s1 with b:=s1.b.set l (.eV ts1 ps1 atw arO .busy) } η1 H1 a1 (w1.putObj bl (.loop { ahb with state:=.busy })):=by
    have:=D2
    simp only [uy.state,uy.Fm] at this
    rw [<-arP] at this
    exact this
   refine wpIn_mono (vW C I ih (λc s k _ h=>h.out) body _ _ oS hk (F.inRound bl) (R.inRound bl) f1 η1 H1 a1 _ hS D2') ?_
   rintro ee a3 w3 ⟨f3,s3,η3,H3,E3,D3,hk⟩
   obtain rfl:=E3.eq
   have fin:∀(jump:Option Code) (gH:uy) {Yn:List SV} {Yo:List Tmp} {WG VK:Code},s3.b[l]?=some (.eV Yn Yo WG VK .busy)->gH.Fm=jump->gH.state=(if jump.isNone then .ready else .done)->k (s3.b.set l (.eV Yn Yo WG VK gH)) (.bc jump.isNone) ->
     ∃v w',(Instr.endRound bl jump).run (P ()) w3=.ok v w'/\CW f3 k (.returned v) w':=by
    intro jump gH Yn Yo WG VK pG hp cI hk
    obtain ⟨bl3,aAX,V3,e3,m1,m2,D4⟩:=D3.adA hS pG gH
    rw [e] at e3
    simp at e3
    obtain ⟨rfl,rfl⟩:=e3
    refine ⟨_,_,run_endRound jump m1,_,_,η3,H3,.bc jump.isNone,rfl,hk,?_,by simp only [rel]⟩
    rw [<-cI,<-hp]
    exact { D4 with t:=by simp [bd],d:=by rw [hd];rfl }
   cases ee with
   | normal =>
    simp only [Qr] at hk
    split at hk<;>try exact hk.elim
    rename_i pG
    exact fin none .ready pG rfl rfl hk
   | ret =>
    simp only [Qr] at hk
    split at hk<;>try exact hk.elim
    rename_i pG
    exact fin (some .ret) .ret pG rfl rfl hk
   | exit id =>
    simp only [Qr] at hk
    split at hk<;>try exact hk.elim
    rename_i pG
    exact fin (some (.exit id)) (.exit id) pG rfl rfl hk
   | _=>exact hk.elim
end
theorem Cb {X:Ctx} {PP:Unit->Program} (C:X.Ok (PP ())) (I:px X) {S:List SV} {r:Bool} {n:Nat} {c:Code} {s:St} {k:Exit->St->Prop} (hc:codeOk c=true) (h:yr S r PP X n c s k):Ia S r (PP ()) c s k :=
 vW C I (acG C I n) (λc s k _ h=>h.out) c s k hc h
end Go.Vc
