import Derived.Test.YthnhbemmlfaihaaGreatT13
set_option linter.unusedVariables false
set_option linter.unusedSimpArgs false
set_option maxRecDepth 10000
set_option maxHeartbeats 64000000
namespace Go.Vc
open Go
def Still {α:Type} (P:Program) (m:Sem α):Prop:=∀w x w',m.run P w=.ok x w'->w'=w
section still
variable {P:Program}
theorem wZ {α:Type} (x:α):Still P (pure x:Sem α):=by
 intro w y w' h
 simp only [Sem.run_pure,Result.ok.injEq] at h
 exact h.2.symm
theorem uy {α β:Type} {m:Sem α} {f:α->Sem β} (h:Still P m) (h':∀x,Still P (f x)):Still P (m >>= f):=by
 intro w x w' e
 rw [Sem.run_bind] at e
 cases hm:m.run P w with
 | ok y w1 =>
  rw [hm] at e
  simp only [Result.andThen] at e
  obtain rfl:=h _ _ _ hm
  exact h' _ _ _ _ e
 | halt x w1=>rw [hm] at e;simp [Result.andThen] at e
theorem F8 {α:Type} (m:String):Still P (stuck m:Sem α):=by
 intro w y w' h;simp at h
theorem ZI {α:Type} (m:Unsupported):Still P (unsupported m:Sem α):=by
 intro w y w' h;simp at h
theorem MS:Still P program:=by
 intro w y w' h;simp at h;exact h.2.symm
theorem ZJ (r:Nat):Still P (shape r):=by
 intro w y w' h;simp at h;exact h.2.symm
theorem Z4 (a:Addr) (m:Mode):Still P (load a m):=by
 intro w y w' h
 rw [run_load] at h
 split at h
 ·simp at h;exact h.2.symm
 ·split at h
  ·simp at h;exact h.2.symm
  ·simp at h
theorem alB (t:TypeId):Still P (typeInfo t):=by
 unfold typeInfo
 refine uy MS λp=>?_
 split
 ·exact wZ _
 ·exact F8 _
theorem aaD (t:TypeId):Still P (underlying t):=by
 unfold underlying
 refine uy MS λp=>?_
 split
 ·exact wZ _
 ·exact F8 _
theorem alc (t:TypeId):Still P (isAgg t):=by
 unfold isAgg
 refine uy (aaD t) λp=>?_
 split<;>exact wZ _
theorem Zt (t:TypeId):Still P (sizeOf t):=by
 unfold sizeOf
 exact uy (alB t) λp=>wZ _
theorem ZK (a:Addr):∀(n i:Nat) (acc:Array Value),Still P (loadCellsFrom a i n acc)
 | 0,i,acc=>wZ _
 | n+1,i,acc=>uy (Z4 _ _) λv=>ZK a n (i+1) _
theorem akQ (t:TypeId) (a:Addr):Still P (loadVar t a):=by
 unfold loadVar
 refine uy (alc t) λp=>?_
 split
 ·refine uy (Zt t) λn=>uy ?_ λx=>wZ _
  exact ZK a n 0 #[]
 ·exact Z4 a _
theorem Z5 (v:Value):Still P (Instr.sureAddr v):=by
 unfold Instr.sureAddr
 split
 ·exact wZ _
 ·exact F8 _
theorem akW (t:TypeId) (v:Value):Still P (Instr.loadAt t v):=by
 unfold Instr.loadAt
 exact uy (Z5 v) λa=>akQ t a
theorem akX (r:Nat):Still P (getObj r):=by
 intro w y w' h
 simp only [getObj,Sem.run] at h
 repeat' split at h
 all_goals first|(simp at h;exact h.2.symm)|simp at h
theorem alC (a:Addr):Still P (noView a):=by
 unfold noView viewAt
 (repeat' first|exact akX _|exact wZ _|exact F8 _|exact ZI _|exact ZJ _|exact MS|refine uy ?_ λ_=>?_|split)
theorem akY (a:Addr):Still P (byteOf a):=by
 unfold byteOf
 (repeat' first|exact wZ _|exact F8 _|exact ZI _|exact ZJ _|exact MS|exact alC _|refine uy ?_ λ_=>?_|split|dsimp only)
theorem ald (a:Addr) (f:Field):Still P (fieldPlace a f):=by
 unfold fieldPlace partAt
 (repeat' first|exact wZ _|exact Zt _|exact akY _|refine uy ?_ λ_=>?_|split)
theorem akR (t:TypeId) (v:Value) (j:Nat):Still P (Instr.fieldAt t v j):=by
 unfold Instr.fieldAt
 (repeat' first|exact wZ _|exact F8 _|exact aaD _|exact Z5 _|exact ald _ _|refine uy ?_ λ_=>?_|split)
end still
def rQ (o:Oper):Bool:=o.guard.isNone&&(o.dst.isSome&&match o.op with
 | .move _|.nilCheck _|.fieldAddr ..|.load ..=>true
 | _=>false)
section
variable {P:Program} {X:Ctx} {f f1:Fr} {s:St} {η:Nat->Value} {H:bQ} {a a':Act} {w:World} {o:Oper}
theorem am0 (C:X.Ok P) (D:Den f s η H a w) (hl:rQ o=true) {ops:List Oper} {l:Nat} {s1:St} (h:Out X ops o l s s1):∃u η' H',Den f s1 η' H' (a.put o.dst u) w:=by
 unfold rQ at hl
 simp only [ei,R_] at hl
 obtain ⟨hg,hd,fa⟩:=hl
 unfold Out xx at h
 rw [hg] at h
 obtain ⟨x,u,ho,e⟩:=h
 have hk:=(eS.OP (eL X s l o.op) (λx' u'=>x'=x/\u'=u)).2 ⟨x,u,ho,rfl,rfl⟩
 have hna:gY o.op=true->s.b[l]?=some .un:=by
  intro ha
  cases nz:o.op<;>rw [nz] at fa ha<;>first|(cases fa;done)|(simp [gY] at ha;done)
 have Lq:uH o.op=true->o.dst=none:=by
  intro ha
  cases nz:o.op<;>rw [nz] at fa ha<;>first|(cases fa;done)|(simp [uH] at ha;done)
 obtain ⟨x',u',⟨rfl,rfl⟩,Ls⟩:=SJ (R:=λx' u'=>x'=x/\u'=u) C D (l:=l) hna Lq hk
 have hw:=Ls (λa' w'=>∃η' H',Den f s1 η' H' a' w') (λ_ _ _=>False) (λη' H' w' v D'=>⟨η',H',by rw [e];exact D'⟩)
 have ao7:∀z w',(execOp a.eval o).run P w=.ok z w'->w'=w/\∃v,z=.value v:=by
  intro z w' hz
  have fin:∀m:Sem Value,Still P m->(do pure (.value (<-m)):Sem Next).run P w=.ok z w'->w'=w/\∃v,z=.value v:=by
   intro m hm hz
   rw [Sem.run_bind] at hz
   cases hr:m.run P w with
   | ok y w1 =>
    rw [hr] at hz
    simp only [Result.andThen,Sem.run_pure,Result.ok.injEq] at hz
    exact ⟨by rw [<-hz.2];exact hm _ _ _ hr,y,hz.1.symm⟩
   | halt y w1=>rw [hr] at hz;simp [Result.andThen] at hz
  cases nz:o.op<;>rw [nz] at fa<;>try (cases fa;done)
  case move x =>
   simp only [execOp,nz,Sem.run_pure,Result.ok.injEq] at hz
   exact ⟨hz.2.symm,_,hz.1.symm⟩
  case load t x =>
   simp only [execOp,nz] at hz
   exact fin _ (akW _ _) hz
  case fieldAddr t x j =>
   simp only [execOp,nz] at hz
   exact fin _ (akR _ _ _) hz
  case nilCheck x =>
   rw [nz] at hk
   simp only [eL] at hk
   have hx:=D.ev x
   have pt:(∃ad,a.eval x=.pointer (some ad))\/∃g fs cs,a.eval x=.func (.func g) fs cs:=by
    split at hk<;>first|exact hk.elim|skip
    ·rename_i l off e
     rw [e] at hx
     left
     simp only [rel] at hx
     split at hx
     ·exact hx.elim
     ·exact hx
     ·obtain ⟨bl,_,h⟩:=hx;exact ⟨_,h⟩
    ·rename_i cs off e
     rw [e] at hx
     left
     simp only [rel] at hx
     obtain ⟨ad,h,_⟩:=hx;exact ⟨_,h⟩
    ·rename_i g fs cs e
     rw [e] at hx
     right
     simp only [rel] at hx
     obtain ⟨us,vs,h,_⟩:=hx
     exact ⟨_,_,_,h⟩
   rcases pt with ⟨ad,hp⟩|⟨g,fs,cs,hp⟩
   ·simp only [execOp,nz,hp,Sem.run_pure,Result.ok.injEq] at hz
    exact ⟨hz.2.symm,_,hz.1.symm⟩
   ·simp only [execOp,nz,hp,Sem.run_pure,Result.ok.injEq] at hz
    exact ⟨hz.2.symm,_,hz.1.symm⟩
 unfold Oper.wp at hw
 cases hz:(execOp a.eval o).run P w with
 | ok z w' =>
  obtain ⟨rfl,v,rfl⟩:=ao7 z w' hz
  rw [hz] at hw
  obtain ⟨η',H',D'⟩:=hw
  exact ⟨v,η',H',D'⟩
 | halt z w'=>rw [hz] at hw;cases z<;>simp only [Oper.upon] at hw
theorem M8 (hl:rQ o=true):gY o.op=false:=by
 unfold rQ at hl
 simp only [ei] at hl
 obtain ⟨_,_,fa⟩:=hl
 cases nz:o.op<;>rw [nz] at fa<;>first|(cases fa;done)|rfl
theorem am1 (hl:rQ o=true) (s:St) (l:Nat):eL X s l o.op=eL X s 0 o.op:=by
 unfold rQ at hl
 simp only [ei] at hl
 obtain ⟨_,_,fa⟩:=hl
 cases nz:o.op<;>rw [nz] at fa<;>first|(cases fa;done)|rfl
theorem aby (hl:rQ o=true):∃d,o.dst=some d:=by
 unfold rQ at hl
 simp only [ei] at hl
 exact uB.1 hl.2.1
theorem alD (hl:rQ o=true):o.guard=none:=by
 unfold rQ at hl
 simp only [ei,R_] at hl
 exact hl.1
structure yC (ds:List Tmp) (a b:Act):Prop where
 d:a.defers=b.defers
 z:a.tmps.size=b.tmps.size
 t:∀d,d∉ds->a.tmps[d]?=b.tmps[d]?
theorem yC.put {ds:List Tmp} {a b:Act} (h:yC ds a b) (dst:Option Tmp) (v:Value):yC ds (a.put dst v) (b.put dst v):=by
 cases dst with
 | none=>exact h
 | some d =>
  refine ⟨h.d,by simp [Act.put,h.z],λd' mX=>?_⟩
  simp only [Act.put,Array.getElem?_setIfInBounds]
  rw [h.t d' mX,h.z]
theorem yC.ev {ds:List Tmp} {a b:Act} (h:yC ds a b) {x:Operand} (hx:∀t,x=.tmp t->t∉ds):a.eval x=b.eval x:=by
 cases x with
 | tmp t =>
  have:=h.t t (hx t rfl)
  simp only [Act.eval,Jm,this]
 | _=>rfl
theorem amd {r:Bool} {F:Fence} (R:RF r F) {ds:List Tmp} {a b:Act} (hs:yC ds a b) {c:Call} {g:FuncId} (ho:o.op=.call c) (hc:c.callee=.value (.func g)) (hd:∀t∈lN o.op,t∉ds)
  {K K':Act->World->Prop} {Q:Exit->Act->World->Prop} (hQ:∀e a w,e≠.normal->¬Q e a w) (hQ':¬LetsOut Q) (hK:∀a1 b1 w',yC ds a1 b1->K b1 w'->K' a1 w') (h:o.wpIn F 0 P b w K Q):o.wpIn F 0 P a w K' Q:=by
 have H4:c.args.map a.eval=c.args.map b.eval:=Array.map_congr_left λx hx=>hs.ev λt ht=>hd t (by
  subst ht
  rw [ho]
  exact DR.2 ⟨.tmp t,by simpa [Op.operands] using MZ (Array.mem_toList_iff.2 hx),rfl⟩)
 have iX:resolve a.eval c o.type=resolve b.eval c o.type:=by
  unfold resolve
  rw [hc,H4]
  rfl
 have hex:o.semAt F.round a.eval=o.semAt F.round b.eval:=by
  rw [Oper.semAt_eq _ _ _ (λc' e=>by rw [ho] at e;cases e),Oper.semAt_eq _ _ _ (λc' e=>by rw [ho] at e;cases e)]
  unfold execOp
  rw [ho]
  simp only [iX]
 refine ⟨λf _=>R.fn f,?_⟩
 have h2:=h.2
 rw [hex]
 generalize (o.semAt F.round b.eval).run P w=z at *
 cases z with
 | ok x w' =>
  cases x<;>simp only [Oper.uponIn] at h2 ⊢
  case value v=>exact hK _ _ _ (hs.put _ _) h2
  case skip=>exact hK _ _ _ (hs.put _ _) h2
  case defer dd=>exact hK _ _ _ (yC.put (a:={ a with defers:=dd :: a.defers }) (b:={ b with defers:=dd :: b.defers }) ⟨by simp [hs.d],hs.z,hs.t⟩ _ _) h2
  case enter=>exact ⟨h2.1,CallsIn.mono h2.2 λe Lw he=>by cases e<;>first|exact hK _ _ _ (hs.put _ _) he|exact absurd he (hQ _ _ _ (by simp))|exact he⟩
  case row=>exact ⟨h2.1,RowsIn.mono h2.2 λv Lw he=>hK _ _ _ (hs.put _ _) he⟩
  case round=>exact ⟨h2.1,RoundIn.mono h2.2 λe Lw he=>by cases e<;>first|exact hK _ _ _ (hs.put _ _) he|exact absurd he (hQ _ _ _ (by simp))|exact he⟩
  all_goals exact h2
 | halt x w'=>cases x<;>simp only [Oper.uponIn] at h2 ⊢<;>first|exact h2|exact absurd h2 (hQ _ _ _ (by simp))
theorem abz {q:Nat->Live}:∀{t:List SV} {vs r_:List Value},a_ η q H t vs->vs.length=r_.length->(∀d:Nat,t[d]?=some .any\/vs[d]?=r_[d]?)->a_ η q H t r_
 | [],vs,r_,h,hl,_=>by
  simp only [a_] at h ⊢
  subst h
  cases r_ with
  | nil=>rfl
  | cons=>simp at hl
 | x :: r,vs,r_,h,hl,hd=>by
  simp only [a_] at h ⊢
  obtain ⟨v,vs1,rfl,h1,h2⟩:=h
  cases r_ with
  | nil=>simp at hl
  | cons v' ar7 =>
   refine ⟨v',ar7,rfl,?_,abz h2 (by simpa using hl) λd=>by simpa using hd (d+1)⟩
   rcases hd 0 with h|h
   ·simp at h;subst h;simp only [rel]
   ·simp at h;subst h;exact h1
theorem acr:∀(ds:List Nat) {t:List SV} {d:Nat},d∉ds->(mR ds t)[d]?=t[d]?
 | [],_,_,_=>rfl
 | d' :: r,t,d,h=>by
  rw [mR,acr r (λh'=>h (by simp [h'])),eU (λe=>h (by simp [e]))]
theorem acs:∀(ds:List Nat) {t:List SV} {d:Nat},(mR ds t)[d]?=some .any\/(mR ds t)[d]?=t[d]?
 | [],_,_=>.inr rfl
 | d' :: r,t,d=>by
  rw [mR]
  rcases acs r (t:=t.set d' .any) (d:=d) with h|h
  ·exact .inl h
  ·rw [h,iT]
   split
   ·split
    ·exact .inl rfl
    ·right;rename_i e hn;subst e;simp at hn ⊢;exact hn
   ·exact .inr rfl
theorem abA:∀(ds:List Nat) {t:List SV} {d:Nat} {v:SV},d∉ds->(mR ds t).set d v=mR ds (t.set d v)
 | [],_,_,_,_=>rfl
 | d' :: r,t,d,v,h=>by
  rw [mR,mR,abA r (λh'=>h (by simp [h'])),SA _ _ (λe=>h (by simp [e]))]
theorem Den.but {ds:List Tmp} {a b:Act} (D:Den f s η H b w) (h:yC ds a b):Den f ⟨mR ds s.t,s.b⟩ η H a w:={ D with
 t:=by
  have h1:=SN ds D.t
  refine abz h1 (by simp [h.z]) λd=>?_
  by_cases hd:d∈ds
  ·by_cases hl:d < s.t.length
   ·exact .inl (Ta ds hd hl)
   ·right
    have h2:b.tmps.size=s.t.length:=by have:=jQ D.t;simpa using this
    rw [l6 (by simp [h2];omega),l6 (by simp [h.z,h2];omega)]
  ·right
   have:=h.t d hd
   simpa using this.symm
 d:=by rw [h.d];exact D.d }
def rr:List (Nat × Oper × Nat)->List Tmp
 | []=>[]
 | x :: r=>match x.2.1.dst with
  | some d=>d :: rr r
  | none=>rr r
theorem Jy:∀{L:List (Nat × Oper × Nat)} {d:Tmp},d∈rr L↔∃x∈L,x.2.1.dst=some d
 | [],d=>by simp [rr]
 | x :: r,d=>by
  unfold rr
  split
  ·rename_i d' mX
   rw [er,Jy]
   constructor
   ·rintro (rfl|⟨y,hy,h⟩)
    ·exact ⟨x,by simp,mX⟩
    ·exact ⟨y,by simp [hy],h⟩
   ·rintro ⟨y,hy,h⟩
    rcases er.1 hy with rfl|hy
    ·rw [mX] at h;simp at h;exact .inl h.symm
    ·exact .inr ⟨y,hy,h⟩
  ·rename_i mX
   rw [Jy]
   constructor
   ·rintro ⟨y,hy,h⟩;exact ⟨y,by simp [hy],h⟩
   ·rintro ⟨y,hy,h⟩
    rcases er.1 hy with rfl|hy
    ·rw [mX] at h;cases h
    ·exact ⟨y,hy,h⟩
def KE (X:Ctx) (s:St) (o:Oper):Prop:=match o.dst with
 | some d=>match eL X s 0 o.op with
  | .pure v []=>s.t[d]?=some v
  | _=>False
 | none=>False
def OV (X:Ctx):List Oper->St->Prop
 | [],_=>True
 | o :: r,s=>KE X s o/\OV X r s
theorem aaE:∀{os:List Oper} {s:St},OV X os s->∀o∈os,KE X s o
 | [],_,_,o,h=>by cases h
 | x :: r,s,h,o,ho=>by
  rcases er.1 ho with rfl|ho
  ·exact h.1
  ·exact aaE h.2 o ho
theorem abB (C:X.Ok P) {ops:Array Oper} {k:St->Prop}:∀(A:List (Nat × Oper × Nat)) {s:St} {η:Nat->Value} {H:bQ} {a:Act},(∀x∈A,rQ x.2.1=true)->Den f s η H a w->kG X ops.toList (ol A) s k ->
  ∃s1 a1 η1 H1,Den f s1 η1 H1 a1 w/\k s1/\yC (rr A) a a1
 | [],s,η,H,a,_,D,h=>⟨s,a,η,H,D,h,⟨rfl,rfl,λ_ _=>rfl⟩⟩
 | x :: A,s,η,H,a,hl,D,h=>by
  obtain ⟨s1,h1,h2⟩:=uz.1 h
  obtain ⟨u,η1,H1,D1⟩:=am0 C D (hl x (by simp)) h1
  obtain ⟨s2,a2,η2,H2,D2,hk,hs⟩:=abB C A (λy hy=>hl y (by simp [hy])) D1 h2
  refine ⟨s2,a2,η2,H2,D2,hk,?_⟩
  obtain ⟨d,hd⟩:=aby (hl x (by simp))
  have o9:rr (x :: A)=d :: rr A:=by simp only [rr,hd]
  rw [hd] at hs
  refine ⟨by rw [<-hs.d];rfl,by rw [<-hs.z];simp [Act.put],λt ht=>?_⟩
  rw [o9] at ht
  rw [<-hs.t t (λh=>ht (by simp [h]))]
  simp only [Act.put]
  rw [R6 (λe=>ht (by simp [e]))]
theorem ZL {ops:List Oper} {k:St->Prop}:∀(L1:List (Oper × Nat)) {L2:List (Oper × Nat)} {s:St},kG X ops L1 s (λs1=>kG X ops L2 s1 k)->kG X ops (L1++L2) s k
 | [],_,_,h=>h
 | x :: L1,L2,s,h=>by
  obtain ⟨s1,h1,h2⟩:=uz.1 h
  exact uz.2 ⟨s1,h1,ZL L1 h2⟩
theorem Z6 {ops:List Oper} {k:St->Prop} {s:St}:∀(A:List (Nat × Oper × Nat)),(∀x∈A,rQ x.2.1=true/\KE X s x.2.1)->(∀x∈A,∀d,x.2.1.dst=some d->d∉lN x.2.1.op) ->
  A.Pairwise (λx y=>∀d,y.2.1.dst=some d->d∉lN x.2.1.op/\x.2.1.dst≠some d)->k s->kG X ops (ol A) ⟨mR (rr A) s.t,s.b⟩ k
 | [],_,_,_,h=>h
 | x :: A,hl,Ex,hp,h=>by
  rw [lL] at hp
  obtain ⟨pP,cG⟩:=hl x (by simp)
  obtain ⟨d,hd⟩:=aby pP
  have o9:rr (x :: A)=d :: rr A:=by simp only [rr,hd]
  have gz:d∉rr A:=λhm=>by
   obtain ⟨y,hy,Fy⟩:=Jy.1 hm
   exact (hp.1 y hy d Fy).2 hd
  unfold KE at cG
  rw [hd] at cG
  simp only at cG
  split at cG<;>try exact cG.elim
  rename_i v hv
  rw [o9]
  refine uz.2 ⟨⟨mR (rr A) s.t,s.b⟩,?_,Z6 A (λy hy=>hl y (by simp [hy])) (λy hy=>Ex y (by simp [hy])) hp.2 h⟩
  unfold Out xx
  rw [alD pP]
  refine ⟨v,[],?_,?_⟩
  ·rw [am1 pP,Zm X (s:=⟨mR (d :: rr A) s.t,s.b⟩) (s':=s) 0 x.2.1.op (λt ht=>?_) rfl,hv]
   ·exact ⟨rfl,rfl⟩
   ·refine acr _ λhm=>?_
    rcases er.1 hm with rfl|hm
    ·exact Ex x (by simp) _ hd ht
    ·obtain ⟨y,hy,Fy⟩:=Jy.1 hm
     exact (hp.1 y hy t Fy).1 ht
  ·unfold St.ga
   rw [hd]
   simp only [mO]
   rw [mR,abA _ gz,Nr,NG _ _ _ cG]
def GK (ops:List Oper) (i:Nat):List Oper:=((ops.take i).zipIdx.filter λp=>!((Cb ops []).getD i 0).testBit p.2).map (·.1)
def adv (ops:List Oper) (h p:Oper) (j:Nat):Bool:=rQ p&&match p.dst with
 | some d=>!(lN h.op).contains d&&(!(lN p.op).contains d&&(ops.take j).all λq=>!(lN q.op).contains d&&q.dst != some d)
 | none=>false
def Oq (ops:List Oper) (i:Nat):Bool:=match ops[i]? with
 | some h=>h.guard.isNone&&((match h.op with
  | .call c=>match c.callee with
   | .value (.func _)=>true
   | _=>false
  | _=>false)&&(((ops.take i).zipIdx.all λp=>((Cb ops []).getD i 0).testBit p.2||adv ops h p.1 p.2) &&
   ((ops.drop (i+1)).zipIdx.all λp=>((Cb ops []).getD (i+1+p.2) 0).testBit i)))
 | none=>false
structure af4 (ops:List Oper) (i:Nat) (h:Oper):Prop where
 at_:ops[i]?=some h
 guard:h.guard=none
 call:∃c g,h.op=.call c/\c.callee=.value (.func g)
 yY:∀j p,j < i->ops[j]?=some p->ow ops j i\/(rQ p=true/\p∈GK ops i/\∀d,p.dst=some d->d∉lN h.op/\d∉lN p.op/\∀j' q,j' < j->ops[j']?=some q->d∉lN q.op/\q.dst≠some d)
 back:∀j o,i < j->ops[j]?=some o->ow ops i j
theorem ale {ops:List Oper} {i:Nat} (h:Oq ops i=true):∃o,af4 ops i o:=by
 have hm:=R0 ops ops [] [] rfl rfl (λi j h=>by simp at h)
 unfold Oq at h
 split at h
 ·rename_i o ho
  simp only [ei,R_] at h
  obtain ⟨h1,h2,h3,h4⟩:=h
  refine ⟨o,ho,h1,?_,λj p hj hp=>?_,λj q hj hq=>?_⟩
  ·split at h2
   ·rename_i c hc
    split at h2
    ·rename_i g hg;exact ⟨c,g,hc,hg⟩
    ·cases h2
   ·cases h2
  ·have eN:(p,j)∈(ops.take i).zipIdx:=by
    rw [Gr,Nc hj]
    exact hp
   have:=mN.1 h3 (p,j) eN
   simp only [vA] at this
   cases hb:((Cb ops []).getD i 0).testBit j with
   | true=>exact .inl (hm i j hb)
   | false =>
    right
    rcases this with h|h
    ·rw [hb] at h;cases h
    unfold adv at h
    simp only [ei] at h
    refine ⟨h.1,?_,λd hd=>?_⟩
    ·unfold GK
     exact j3.2 ⟨(p,j),xb.2 ⟨eN,by simp only [hb];rfl⟩,rfl⟩
    ·have h5:=h.2
     rw [hd] at h5
     simp only [ei] at h5
     refine ⟨by simpa using h5.1,by simpa using h5.2.1,λj' q Fw hq=>?_⟩
     have h6:=mN.1 h5.2.2 q (by
      refine b_ (i:=j') ?_
      rw [Nc Fw];exact hq)
     simp only [ei] at h6
     exact ⟨by simpa using h6.1,by simpa using h6.2⟩
  ·have eN:(q,j - (i+1))∈(ops.drop (i+1)).zipIdx:=by
    rw [Gr,lq,show i+1+(j - (i+1))=j by omega]
    exact hq
   have:=mN.1 h4 _ eN
   simp only at this
   rw [show i+1+(j - (i+1))=j by omega] at this
   exact hm j i this
 ·cases h
def UP (X:Ctx) (call:rU) (S:List SV) (ops:List Oper) (i:Nat) (s:St) (k:St->Prop):Prop:=match ops[i]? with
 | none=>False
 | some h=>match aez ops s with
  | false=>False
  | true=>kG X ops ((fk ops s.b.length).take i) { s with b:=s.b++jt (qX ops) } λs1 =>
   A0 X call S h 0 s1 λs2=>match Ew ((fk ops s.b.length).drop (i+1)) s2.b&&Cm ops (sF ops (fk ops s.b.length) s2) ops with
    | true=>OV X (GK ops i) s2/\kG X ops ((fk ops s.b.length).drop (i+1)) s2 k
    | false=>False
section
variable {P:Program} {X:Ctx} {f f1:Fr} {s:St} {η:Nat->Value} {H:bQ} {a a':Act} {w:World} {o:Oper}
theorem am2 {ds:List Nat} {s:St} {t:Tmp} {l:Nat} (h:iK ⟨mR ds s.t,s.b⟩ t=some l):iK s t=some l:=by
 unfold iK at h ⊢
 rcases acs ds (t:=s.t) (d:=t) with h1|h1
 ·simp only [h1,nM] at h
  cases h
 ·simpa only [h1] using h
theorem alE (C:X.Ok P) (I:oX X) {call:rU} (CO:Am P X call) {r:Bool} {F:Fence} (RR:RF r F) {ops:Array Oper} (O:Ordered ops.toList) {hh:Nat × Oper × Nat} (B:af4 ops.toList hh.1 hh.2.1) (hs:xd ops.toList=true) {Q0:Act->World->Prop} {k k1:St->Prop}
  (hk:∀s' η' H' a' w',Den f s' η' H' a' w'->k s'->wg Q0 .normal a' w') {R:List (Nat × Oper × Nat)} (vW:∀y∈R,hh.1 < y.1) (xU:∀y∈R,ops[y.1]?=some y.2.1)
  (eT:∀s2,k1 s2->∃Ks,me ops s2 R/\(∀ds,q_ ops.toList Ks ⟨mR ds s2.t,s2.b⟩)/\(∀y:Nat × Oper × Nat,ops[y.1]?=some y.2.1->rQ y.2.1=true->vO ops.toList Ks y.2.1 y.2.2)/\(∀y∈R,vO ops.toList Ks y.2.1 y.2.2)/\(∀q∈GK ops.toList hh.1,KE X s2 q)/\kG X ops.toList (ol R) s2 k) :
  ∀(n:Nat) (A:List (Nat × Oper × Nat)) {dO:Array Bool} {Ks:Tmp->List Nat} {s:St} {η:Nat->Value} {H:bQ} {a:Act} {w:World},A.length+R.length+1=n->(∀y∈A,y.1 < hh.1)->me ops s A->q_ ops.toList Ks s->(∀y∈A,vO ops.toList Ks y.2.1 y.2.2) ->
   pL ops (A++hh :: R) dO->Den f s η H a w->kG X ops.toList (ol A) s (λs1=>A0 X call f.sS hh.2.1 0 s1 k1)->wpAnyIn F 0 P .any ops (wg Q0) n dO a w:=by
 intro n
 induction n with
 | zero=>intro A _ _ _ _ _ _ _ hn;omega
 | succ n ih =>
  intro A dO Ks s η H a w hn EO W FA hL Li D h
  have xT:ops[hh.1]?=some hh.2.1:=by simpa using B.at_
  have qx:∀y∈A++hh :: R,ops[y.1]?=some y.2.1:=by
   intro y hy
   rcases List.mem_append.1 hy with hy|hy
   ·exact W.get y hy
   ·rcases er.1 hy with rfl|hy
    ·exact xT
    ·exact xU y hy
  constructor
  ·intro hr
   cases A with
   | nil =>
    have:=pL.first O Li xT
    rw [hr] at this;cases this
   | cons x A =>
    have:=pL.first O (L:=A++hh :: R) Li (W.get x (by simp))
    rw [hr] at this;cases this
  ·intro i hi
   obtain ⟨h0,o,ho,xq⟩:=mem_ready.1 hi
   have aR:=(jh.1 ho).1
   obtain ⟨x,hx,rfl⟩:=(Li.list i aR).1 h0
   rcases List.mem_append.1 hx with Xn|xS
   ·
    obtain ⟨A1,A2,rfl⟩:=Ge Xn
    have je:=W.get x (by simp)
    have wk:=pL.step (A:=A1) (B:=A2++hh :: R) (by simpa using Li) hi
    have j4:=n9.1 (n9.1 Li.inc).1
    have hA:∀p∈A1,xo ops.toList p.2.1 x.2.1:=by
     intro p qC
     have oE:=W.get p (by simp [qC])
     rcases O.apart x.1 x.2.1 p.1 p.2.1 (by simpa using je) (by simpa using oE) (j4.2.2 p qC x (by simp)) with hF|tT
     ·exact absurd rfl (Li.yY hi hF (jh.1 oE).1 p (by simp [qC]))
     ·exact M5 tT
    have h2:=JV C x A2 A1 ⟨η,H,a,w,D⟩ FA hL W hA h
    obtain ⟨s1,h3,h4⟩:=uz.1 h2
    have nk:(A1++x :: A2).Perm (x :: (A1++A2)):=Jc
    have eN:x.2.1∈ops.toList:=Array.mem_toList_iff.2 (zY je)
    have Lx:=FA.out eN (hL x (by simp)) (λf S h=>(C.sp f S h).lr) h3
    have W':=(W.perm nk).tail h3
    have nh:=Ji C D je (λha=>W.un x (by simp) ha) (W.store x (by simp)) h3 (Q:=wg Q0) (K:=λa' w'=>∃η' H',Den f s1 η' H' a' w') λη' H' a' w' D'=>⟨η',H',D'⟩
    unfold wpOp at nh
    unfold wpOpIn
    rw [je] at nh ⊢
    simp only at nh ⊢
    have fin:∀a' w',(∃η' H',Den f s1 η' H' a' w')->wpAnyIn F 0 P .any ops (wg Q0) n (dO.setIfInBounds x.1 true) a' w':=by
     intro a' w' ⟨η',H',D'⟩
     exact ih (A1++A2) (by simp at hn ⊢;omega) (λy hy=>EO y (nk.mem_iff.2 (by simp only [er];exact .inr hy))) W' Lx (λy hy=>hL y (nk.mem_iff.2 (by simp only [er];exact .inr hy))) (by simpa using wk) D' h4
    by_cases hw:Region.wanted x.2.1 (yielded ops a.tmps)=true
    ·rw [if_pos hw] at nh ⊢
     rcases nh with nh|nh
     ·have gz:yB x.2.1.op=false:=by
       have:=mN.1 hs x.2.1 eN
       cases cG:uH x.2.1.op
       ·rw [cG] at this;simpa using this
       ·cases fa:x.2.1.op<;>rw [fa] at cG<;>first|rfl|cases cG
      exact Oper.wpIn_mono (λa' w' hq=>fin a' w' hq) (Ay RR gz nh)
     ·exact absurd nh.2 JH
    ·rw [if_neg hw] at nh ⊢
     exact ⟨λg _=>RR.fn g,fin _ _ nh⟩
   ·rcases er.1 xS with rfl|xS
    ·
     have yM:∀y∈A,rQ y.2.1=true/\y.2.1∈GK ops.toList x.1/\∀d,y.2.1.dst=some d->d∉lN x.2.1.op/\d∉lN y.2.1.op/\∀j' q,j' < y.1->ops.toList[j']?=some q->d∉lN q.op/\q.dst≠some d:=by
      intro y hy
      rcases B.yY y.1 y.2.1 (EO y hy) (by simpa using W.get y hy) with hF|h
      ·exact absurd rfl (Li.yY hi hF (jh.1 (W.get y hy)).1 y (by simp [hy]))
      ·exact h
     obtain ⟨s1,a1,η1,H1,D1,h1,vP⟩:=abB C A (λy hy=>(yM y hy).1) D h
     obtain ⟨c,g,Pz,tW⟩:=B.call
     have Xm:gY x.2.1.op=false:=by
      rw [Pz]
      cases c
      simp only at tW
      subst tW
      rfl
     have k8:uH x.2.1.op=false:=by rw [Pz];rfl
     have gz:yB x.2.1.op=false:=by rw [Pz];rfl
     have wk:=pL.step (A:=A) (B:=R) Li hi
     unfold wpOpIn
     rw [xT]
     simp only
     rw [if_pos (by simp [Region.wanted,B.guard])]
     refine amd RR vP Pz tW (λt ht hm=>?_) (K:=λa' w'=>∃s2 η' H',Den f s2 η' H' a' w'/\k1 s2) (λe a w he h=>by cases e<;>first|exact absurd rfl he|exact h) JH (λa2 b2 w' jT hb=>?_)
      (Ny C I CO RR (s:=s1) D1 (l:=0) (by intro ha;rw [Xm] at ha;cases ha) (by intro ha;rw [k8] at ha;cases ha) gz h1 (Q:=wg Q0) (K:=λa' w'=>∃s2 η' H',Den f s2 η' H' a' w'/\k1 s2) λs' η' H' a' w' D' jL=>⟨s',η',H',D',jL⟩)
     ·obtain ⟨y,hy,Fy⟩:=Jy.1 hm
      exact ((yM y hy).2.2 t Fy).1 ht
     obtain ⟨s2,η2,H2,D2,my⟩:=hb
     obtain ⟨Ks2,W2,Xp,hL1,Xq,cG,h2⟩:=eT s2 my
     have D3:=D2.but jT
     have aeI:=(n9.1 Li.inc).1
     have hag:=Z6 (X:=X) (ops:=ops.toList) (k:=λs3=>kG X ops.toList (ol R) s3 k) (s:=s2) A (λy hy=>⟨(yM y hy).1,cG _ (yM y hy).2.1⟩) (λy hy d hd=>((yM y hy).2.2 d hd).2.1)
      (aeI.imp_of_mem λ{p q} hp hq aR d hd=>((yM q hq).2.2 d hd).2.2 p.1 p.2.1 aR (by simpa using W.get p hp)) h2
     have ar8:kG X ops.toList (ol (A++R)) ⟨mR (rr A) s2.t,s2.b⟩ k:=by
      have:=ZL (ol A) hag
      unfold ol at this ⊢
      rwa [Nn]
     refine acq RR hs JH _ _ _ _ ?_
     refine acn C O hk n (A++R) (by simp at hn ⊢;omega) ⟨λy hy=>?_,λy hy=>?_,λy hy ha=>?_,?_⟩ wk.inc wk.list wk.all wk.down (Xp _) (λy hy=>?_) D3 ar8
     ·rcases List.mem_append.1 hy with hy|hy
      ·exact W.get y hy
      ·exact xU y hy
     ·rcases List.mem_append.1 hy with hy|hy
      ·exact W.store y hy
      ·exact W2.store y hy
     ·rcases List.mem_append.1 hy with hy|hy
      ·rw [M8 (yM y hy).1] at ha;cases ha
      ·exact W2.un y hy ha
     ·refine n9.2 ⟨aeI.imp_of_mem λ{p q} hp hq _ ha _=>?_,W2.i_,λp hp q hq ha _=>?_⟩
      ·rw [M8 (yM p hp).1] at ha;cases ha
      ·rw [M8 (yM p hp).1] at ha;cases ha
     ·rcases List.mem_append.1 hy with hy|hy
      ·exact hL1 y (W.get y hy) (yM y hy).1
      ·exact Xq y hy
    ·
     have hF:=B.back x.1 x.2.1 (vW x xS) (by simpa using xU x xS)
     exact absurd rfl (Li.yY hi hF (jh.1 xT).1 hh (by simp))
theorem alf (C:X.Ok P) (I:oX X) {call:rU} (CO:Am P X call) {r:Bool} {F:Fence} (RR:RF r F) {id:Nat} {ops:Array Oper} (hs:xd ops.toList=true) (hd:JF ops.toList=true) {i:Nat} (hb:Oq ops.toList i=true) {Q:Exit->Act->World->Prop} {k:St->Prop}
  (hk:∀s' η' H' a' w',Den f s' η' H' a' w'->k s'->Q .normal a' w') (D:Den f s η H a w) (h:UP X call f.sS ops.toList i s k):(Code.region id ops true).wpIn F 0 P Q a w:=by
 refine wpIn_mono (Q:=wg (Q .normal)) ?_ (λe a' w' h=>by cases e<;>first|exact h|exact h.elim)
 have hk:∀s' η' H' a' w',Den f s' η' H' a' w'->k s'->wg (Q .normal) .normal a' w':=hk
 have O:=Zq hd
 obtain ⟨fa,B⟩:=ale hb
 unfold UP at h
 rw [B.at_] at h
 simp only at h
 split at h
 ·exact h.elim
 rename_i Ht
 let n:=s.b.length
 let s0:St:={ s with b:=s.b++jt (qX ops.toList) }
 have D1:=D.ext (qX ops.toList)
 have D2:Den f s0 η H a { w with drawn:=w.drawn+1 }:=D1.grown (RK w none)
 have W:me ops s0 (items ops.toList n):=RZ hs s
 have hlen:(items ops.toList n).length=ops.size:=by
  have:=congrArg List.length (vw ops.toList n)
  simpa using this
 have EP:i < ops.size:=by
  have:=(bX.1 B.at_).1
  simpa using this
 have iw:items ops.toList n=(items ops.toList n).take i++(items ops.toList n)[i]'(by rw [hlen];exact EP) :: (items ops.toList n).drop (i+1):=by
  rw [aai,List.take_append_drop]
 have EN:∀(j:Nat) (x:Nat × Oper × Nat),(items ops.toList n)[j]?=some x->x.1=j/\ops[j]?=some x.2.1/\(fk ops.toList n)[j]?=some x.2:=by
  intro j x hx
  have h1:=W.get x (b_ hx)
  have h2:((items ops.toList n).map (·.1))[j]?=some x.1:=by rw [mM,hx];rfl
  rw [vw,Gc (by
   have:=(bX.1 hx).1
   rw [hlen] at this;simpa using this)] at h2
  simp at h2
  have h3:(ol (items ops.toList n))[j]?=some x.2:=by unfold ol;rw [mM,hx];rfl
  rw [Ae] at h3
  exact ⟨h2.symm,by rw [h2];exact h1,h3⟩
 have Ly:(items ops.toList n)[i]?=some ((items ops.toList n)[i]'(by rw [hlen];exact EP)):=eh _
 generalize (items ops.toList n)[i]'(by rw [hlen];exact EP)=hh at iw Ly
 obtain ⟨HZ,Qq,_⟩:=EN i hh Ly
 have Py:hh.2.1=fa:=by
  have:ops[i]?=some fa:=by simpa using B.at_
  rw [Qq] at this;simpa using this
 have inc:(items ops.toList n).Pairwise (λx y=>x.1 < y.1):=by
  have h2:((items ops.toList n).map (·.1)).Pairwise (· < ·):=by rw [vw];exact Se
  rw [yu] at h2
  exact h2
 have KC:=inc
 rw [iw] at KC
 have Hu:=n9.1 KC
 have Xr:ol ((items ops.toList n).take i)=(fk ops.toList n).take i:=by unfold ol;rw [SB];show (ol (items ops.toList n)).take i=_;rw [Ae]
 have Lz:ol ((items ops.toList n).drop (i+1))=(fk ops.toList n).drop (i+1):=by unfold ol;rw [List.map_drop];show (ol (items ops.toList n)).drop (i+1)=_;rw [Ae]
 have FA:q_ ops.toList (sF ops.toList (fk ops.toList n) s) s0 :=
  ⟨λt A hA l hl=>by
   have hl:iK s t=some l:=hl
   exact IZ hA (by simp [Ej,hl]),Nx,JG Ht⟩
 have vW:∀y∈(items ops.toList n).drop (i+1),hh.1 < y.1:=λy hy=>(lL.1 Hu.2.1).1 y hy
 refine wpIn_region_any C.mixed ?_
 refine alE C I CO RR O (by rw [HZ,Py];exact B) hs hk (k1:=λs2=>match Ew ((fk ops.toList s.b.length).drop (i+1)) s2.b&&Cm ops.toList (sF ops.toList (fk ops.toList s.b.length) s2) ops.toList with
    | true=>OV X (GK ops.toList i) s2/\kG X ops.toList ((fk ops.toList s.b.length).drop (i+1)) s2 k
    | false=>False) (R:=(items ops.toList n).drop (i+1)) vW
  (λy hy=>W.get y (rL hy)) (λs2 my=>?_) ops.size ((items ops.toList n).take i) ?_ (λy hy=>Hu.2.2 y hy hh (by simp)) (W.sub (Nh _ _)) FA
  (λy hy=>Nz s y (uC hy)) ⟨?_,?_,?_,?_⟩ D2 ?_
 ·split at my
  ·rename_i hq
   simp only [ei] at hq
   refine ⟨sF ops.toList (fk ops.toList n) s2,⟨λx hx=>W.get x (rL hx),λx hx=>W.store x (rL hx),λx hx ha=>?_,W.i_.sublist (List.drop_sublist _ _)⟩,
    λds=>⟨λt A hA l hl=>IZ hA (by simp [Ej,am2 hl]),Nx,JG hq.2⟩,λy hy hl t A _ _ ha _=>(by rw [M8 hl] at ha;cases ha),λy hy=>Nz s2 y (rL hy),
    λq hq=>aaE my.1 q (by rw [HZ] at hq;exact hq),by rw [Lz];exact my.2⟩
   refine SP hq.1 x.2 ?_ ha
   rw [<-Lz]
   exact Gb hx
  ·exact my.elim
 ·simp only [lu,vy,hlen];omega
 ·rw [<-iw];exact inc
 ·intro j hj
  rw [<-iw]
  have:(Array.replicate ops.size false).getD j true=false:=by simp [hj]
  simp only [this,true_iff]
  have hm:j∈(items ops.toList n).map (·.1):=by rw [vw];simpa using hj
  obtain ⟨x,hx,rfl⟩:=j3.1 hm
  exact ⟨x,hx,rfl⟩
 ·intro j
  by_cases hj:j < ops.size
  ·right;left;simp [hj]
  ·right;right;omega
 ·intro j o e ho hl
  exfalso
  by_cases hj:j < ops.size
  ·simp [hj] at hl
  ·simp [hj] at hl
 ·rw [Xr,Py];exact h
end
end
end Go.Vc
