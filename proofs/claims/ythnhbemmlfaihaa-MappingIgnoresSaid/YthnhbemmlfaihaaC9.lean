import Derived.Test.YthnhbemmlfaihaaC8
set_option linter.unusedVariables false
set_option linter.unusedSimpArgs false
set_option maxRecDepth 10000
set_option maxHeartbeats 64000000
namespace Go.Vc
open Go
def Still {α:Type} (P:Program) (m:Sem α):Prop:=∀w x w',m.run P w=.ok x w'->w'=w
section still
variable {P:Program}
theorem sU {α:Type} (x:α):Still P (pure x:Sem α):=by
 intro w y w' h
 simp only [Sem.run_pure,Result.ok.injEq] at h
 exact h.2.symm
theorem qy {α β:Type} {m:Sem α} {f:α->Sem β} (h:Still P m) (h':∀x,Still P (f x)):Still P (m >>= f):=by
 intro w x w' e
 rw [Sem.run_bind] at e
 cases hm:m.run P w with
 | ok y w1 =>
  rw [hm] at e
  simp only [Result.andThen] at e
  obtain rfl:=h _ _ _ hm
  exact h' _ _ _ _ e
 | halt x w1=>rw [hm] at e;simp [Result.andThen] at e
theorem AW {α:Type} (m:String):Still P (stuck m:Sem α):=by
 intro w y w' h;simp at h
theorem Rl {α:Type} (m:Unsupported):Still P (unsupported m:Sem α):=by
 intro w y w' h;simp at h
theorem GB:Still P program:=by
 intro w y w' h;simp at h;exact h.2.symm
theorem Rm (r:Nat):Still P (shape r):=by
 intro w y w' h;simp at h;exact h.2.symm
theorem RK (a:Addr) (m:Mode):Still P (load a m):=by
 intro w y w' h
 rw [run_load] at h
 split at h
 ·simp at h;exact h.2.symm
 ·split at h
  ·simp at h;exact h.2.symm
  ·simp at h
theorem aby (t:TypeId):Still P (typeInfo t):=by
 unfold typeInfo
 refine qy GB λp=>?_
 split
 ·exact sU _
 ·exact AW _
theorem SD (t:TypeId):Still P (underlying t):=by
 unfold underlying
 refine qy GB λp=>?_
 split
 ·exact sU _
 ·exact AW _
theorem aa7 (t:TypeId):Still P (isAgg t):=by
 unfold isAgg
 refine qy (SD t) λp=>?_
 split<;>exact sU _
theorem Q1 (t:TypeId):Still P (sizeOf t):=by
 unfold sizeOf
 exact qy (aby t) λp=>sU _
theorem Rn (a:Addr):∀(n i:Nat) (acc:Array Value),Still P (loadCellsFrom a i n acc)
 | 0,i,acc=>sU _
 | n+1,i,acc=>qy (RK _ _) λv=>Rn a n (i+1) _
theorem aaH (t:TypeId) (a:Addr):Still P (loadVar t a):=by
 unfold loadVar
 refine qy (aa7 t) λp=>?_
 split
 ·refine qy (Q1 t) λn=>qy ?_ λx=>sU _
  exact Rn a n 0 #[]
 ·exact RK a _
theorem RL (v:Value):Still P (Instr.sureAddr v):=by
 unfold Instr.sureAddr
 split
 ·exact sU _
 ·exact AW _
theorem aaP (t:TypeId) (v:Value):Still P (Instr.loadAt t v):=by
 unfold Instr.loadAt
 exact qy (RL v) λa=>aaH t a
theorem aaQ (r:Nat):Still P (getObj r):=by
 intro w y w' h
 simp only [getObj,Sem.run] at h
 repeat' split at h
 all_goals first|(simp at h;exact h.2.symm)|simp at h
theorem abz (a:Addr):Still P (noView a):=by
 unfold noView viewAt
 (repeat' first|exact aaQ _|exact sU _|exact AW _|exact Rl _|exact Rm _|exact GB|refine qy ?_ λ_=>?_|split)
theorem aaR (a:Addr):Still P (byteOf a):=by
 unfold byteOf
 (repeat' first|exact sU _|exact AW _|exact Rl _|exact Rm _|exact GB|exact abz _|refine qy ?_ λ_=>?_|split|dsimp only)
theorem aa8 (a:Addr) (f:Field):Still P (fieldPlace a f):=by
 unfold fieldPlace partAt
 (repeat' first|exact sU _|exact Q1 _|exact aaR _|refine qy ?_ λ_=>?_|split)
theorem aaI (t:TypeId) (v:Value) (j:Nat):Still P (Instr.fieldAt t v j):=by
 unfold Instr.fieldAt
 (repeat' first|exact sU _|exact AW _|exact SD _|exact RL _|exact aa8 _ _|refine qy ?_ λ_=>?_|split)
end still
def oG (o:Oper):Bool:=o.guard.isNone&&(o.dst.isSome&&match o.op with
 | .move _|.nilCheck _|.fieldAddr ..|.load ..=>true
 | _=>false)
section
variable {P:Program} {X:Ctx} {f f1:Fr} {s:St} {η:Nat->Value} {H:aV} {a a':Act} {w:World} {o:Oper}
theorem ada (C:X.Ok P) (D:Den f s η H a w) (hl:oG o=true) {ops:List Oper} {l:Nat} {s1:St} (h:Out X ops o l s s1):∃u η' H',Den f s1 η' H' (a.put o.dst u) w:=by
 unfold oG at hl
 simp only [cf,K4] at hl
 obtain ⟨hg,hd,e8⟩:=hl
 unfold Out tv at h
 rw [hg] at h
 obtain ⟨x,u,ho,e⟩:=h
 have hk:=(dH.Ic (dE X s l o.op) (λx' u'=>x'=x/\u'=u)).2 ⟨x,u,ho,rfl,rfl⟩
 have hna:fh o.op=true->s.b[l]?=some .un:=by
  intro ha
  cases po:o.op<;>rw [po] at e8 ha<;>first|(cases e8;done)|(simp [fh] at ha;done)
 have Fk:pO o.op=true->o.dst=none:=by
  intro ha
  cases po:o.op<;>rw [po] at e8 ha<;>first|(cases e8;done)|(simp [pO] at ha;done)
 obtain ⟨x',u',⟨rfl,rfl⟩,Fq⟩:=LG (R:=λx' u'=>x'=x/\u'=u) C D (l:=l) hna Fk hk
 have hw:=Fq (λa' w'=>∃η' H',Den f s1 η' H' a' w') (λ_ _ _=>False) (λη' H' w' v D'=>⟨η',H',by rw [e];exact D'⟩)
 have afj:∀z w',(execOp a.eval o).run P w=.ok z w'->w'=w/\∃v,z=.value v:=by
  intro z w' hz
  have fin:∀m:Sem Value,Still P m->(do pure (.value (<-m)):Sem Next).run P w=.ok z w'->w'=w/\∃v,z=.value v:=by
   intro m hm hz
   rw [Sem.run_bind] at hz
   cases hr:m.run P w with
   | ok y w1 =>
    rw [hr] at hz
    simp only [Result.andThen,Sem.run_pure,Result.ok.injEq] at hz
    exact ⟨by rw [<-hz.2];exact hm _ _ _ hr,y,hz.1.symm⟩
   | halt y w1=>rw [hr] at hz;simp [Result.andThen] at hz
  cases po:o.op<;>rw [po] at e8<;>try (cases e8;done)
  case move x =>
   simp only [execOp,po,Sem.run_pure,Result.ok.injEq] at hz
   exact ⟨hz.2.symm,_,hz.1.symm⟩
  case load t x =>
   simp only [execOp,po] at hz
   exact fin _ (aaP _ _) hz
  case fieldAddr t x j =>
   simp only [execOp,po] at hz
   exact fin _ (aaI _ _ _) hz
  case nilCheck x =>
   rw [po] at hk
   simp only [dE] at hk
   have hx:=D.ev x
   have pt:(∃ad,a.eval x=.pointer (some ad))\/∃g fs cs,a.eval x=.func (.func g) fs cs:=by
    split at hk<;>first|exact hk.elim|skip
    ·rename_i l off e
     rw [e] at hx
     left
     simp only [rel] at hx
     split at hx
     ·exact hx.elim
     ·exact hx
     ·obtain ⟨bl,_,h⟩:=hx;exact ⟨_,h⟩
    ·rename_i cs off e
     rw [e] at hx
     left
     simp only [rel] at hx
     obtain ⟨ad,h,_⟩:=hx;exact ⟨_,h⟩
    ·rename_i g fs cs e
     rw [e] at hx
     right
     simp only [rel] at hx
     obtain ⟨us,vs,h,_⟩:=hx
     exact ⟨_,_,_,h⟩
   rcases pt with ⟨ad,hp⟩|⟨g,fs,cs,hp⟩
   ·simp only [execOp,po,hp,Sem.run_pure,Result.ok.injEq] at hz
    exact ⟨hz.2.symm,_,hz.1.symm⟩
   ·simp only [execOp,po,hp,Sem.run_pure,Result.ok.injEq] at hz
    exact ⟨hz.2.symm,_,hz.1.symm⟩
 unfold Oper.wp at hw
 cases hz:(execOp a.eval o).run P w with
 | ok z w' =>
  obtain ⟨rfl,v,rfl⟩:=afj z w' hz
  rw [hz] at hw
  obtain ⟨η',H',D'⟩:=hw
  exact ⟨v,η',H',D'⟩
 | halt z w'=>rw [hz] at hw;cases z<;>simp only [Oper.upon] at hw
theorem GR (hl:oG o=true):fh o.op=false:=by
 unfold oG at hl
 simp only [cf] at hl
 obtain ⟨_,_,e8⟩:=hl
 cases po:o.op<;>rw [po] at e8<;>first|(cases e8;done)|rfl
theorem adb (hl:oG o=true) (s:St) (l:Nat):dE X s l o.op=dE X s 0 o.op:=by
 unfold oG at hl
 simp only [cf] at hl
 obtain ⟨_,_,e8⟩:=hl
 cases po:o.op<;>rw [po] at e8<;>first|(cases e8;done)|rfl
theorem Tr (hl:oG o=true):∃d,o.dst=some d:=by
 unfold oG at hl
 simp only [cf] at hl
 exact qA.1 hl.2.1
theorem abA (hl:oG o=true):o.guard=none:=by
 unfold oG at hl
 simp only [cf,K4] at hl
 exact hl.1
structure ur (ds:List Tmp) (a b:Act):Prop where
 d:a.defers=b.defers
 z:a.tmps.size=b.tmps.size
 t:∀d,d∉ds->a.tmps[d]?=b.tmps[d]?
theorem ur.put {ds:List Tmp} {a b:Act} (h:ur ds a b) (dst:Option Tmp) (v:Value):ur ds (a.put dst v) (b.put dst v):=by
 cases dst with
 | none=>exact h
 | some d =>
  refine ⟨h.d,by simp [Act.put,h.z],λd' iH=>?_⟩
  simp only [Act.put,Array.getElem?_setIfInBounds]
  rw [h.t d' iH,h.z]
theorem ur.ev {ds:List Tmp} {a b:Act} (h:ur ds a b) {x:Operand} (hx:∀t,x=.tmp t->t∉ds):a.eval x=b.eval x:=by
 cases x with
 | tmp t =>
  have:=h.t t (hx t rfl)
  simp only [Act.eval,DJ,this]
 | _=>rfl
theorem ab6 {r:Bool} {F:Fence} (R:RF r F) {ds:List Tmp} {a b:Act} (hs:ur ds a b) {c:Call} {g:FuncId} (ho:o.op=.call c) (hc:c.callee=.value (.func g)) (hd:∀t∈jx o.op,t∉ds)
  {K K':Act->World->Prop} {Q:Exit->Act->World->Prop} (hQ:∀e a w,e≠.normal->¬Q e a w) (hQ':¬LetsOut Q) (hK:∀a1 b1 w',ur ds a1 b1->K b1 w'->K' a1 w') (h:o.wpIn F 0 P b w K Q):o.wpIn F 0 P a w K' Q:=by
 have hev:c.args.map a.eval=c.args.map b.eval:=Array.map_congr_left λx hx=>hs.ev λt ht=>hd t (by
  subst ht
  rw [ho]
  exact Bl.2 ⟨.tmp t,by simpa [Op.operands] using GJ (Array.mem_toList_iff.2 hx),rfl⟩)
 have gn:resolve a.eval c o.type=resolve b.eval c o.type:=by
  unfold resolve
  rw [hc,hev]
  rfl
 have hex:o.semAt F.round a.eval=o.semAt F.round b.eval:=by
  rw [Oper.semAt_eq _ _ _ (λc' e=>by rw [ho] at e;cases e),Oper.semAt_eq _ _ _ (λc' e=>by rw [ho] at e;cases e)]
  unfold execOp
  rw [ho]
  simp only [gn]
 refine ⟨λf _=>R.fn f,?_⟩
 have h2:=h.2
 rw [hex]
 generalize (o.semAt F.round b.eval).run P w=z at *
 cases z with
 | ok x w' =>
  cases x<;>simp only [Oper.uponIn] at h2 ⊢
  case value v=>exact hK _ _ _ (hs.put _ _) h2
  case skip=>exact hK _ _ _ (hs.put _ _) h2
  case defer dd=>exact hK _ _ _ (ur.put (a:={ a with defers:=dd :: a.defers }) (b:={ b with defers:=dd :: b.defers }) ⟨by simp [hs.d],hs.z,hs.t⟩ _ _) h2
  case enter=>exact ⟨h2.1,CallsIn.mono h2.2 λe Fu he=>by cases e<;>first|exact hK _ _ _ (hs.put _ _) he|exact absurd he (hQ _ _ _ (by simp))|exact he⟩
  case row=>exact ⟨h2.1,RowsIn.mono h2.2 λv Fu he=>hK _ _ _ (hs.put _ _) he⟩
  case round=>exact ⟨h2.1,RoundIn.mono h2.2 λe Fu he=>by cases e<;>first|exact hK _ _ _ (hs.put _ _) he|exact absurd he (hQ _ _ _ (by simp))|exact he⟩
  all_goals exact h2
 | halt x w'=>cases x<;>simp only [Oper.uponIn] at h2 ⊢<;>first|exact h2|exact absurd h2 (hQ _ _ _ (by simp))
theorem Ts {q:Nat->Live}:∀{t:List SV} {vs lE:List Value},aK η q H t vs->vs.length=lE.length->(∀d:Nat,t[d]?=some .any\/vs[d]?=lE[d]?)->aK η q H t lE
 | [],vs,lE,h,hl,_=>by
  simp only [aK] at h ⊢
  subst h
  cases lE with
  | nil=>rfl
  | cons=>simp at hl
 | x :: r,vs,lE,h,hl,hd=>by
  simp only [aK] at h ⊢
  obtain ⟨v,vs1,rfl,h1,h2⟩:=h
  cases lE with
  | nil=>simp at hl
  | cons v' ah5 =>
   refine ⟨v',ah5,rfl,?_,Ts h2 (by simpa using hl) λd=>by simpa using hd (d+1)⟩
   rcases hd 0 with h|h
   ·simp at h;subst h;simp only [rel]
   ·simp at h;subst h;exact h1
theorem Uh:∀(ds:List Nat) {t:List SV} {d:Nat},d∉ds->(kh ds t)[d]?=t[d]?
 | [],_,_,_=>rfl
 | d' :: r,t,d,h=>by
  rw [kh,Uh r (λh'=>h (by simp [h'])),fQ (λe=>h (by simp [e]))]
theorem Ui:∀(ds:List Nat) {t:List SV} {d:Nat},(kh ds t)[d]?=some .any\/(kh ds t)[d]?=t[d]?
 | [],_,_=>.inr rfl
 | d' :: r,t,d=>by
  rw [kh]
  rcases Ui r (t:=t.set d' .any) (d:=d) with h|h
  ·exact .inl h
  ·rw [h,jN]
   split
   ·split
    ·exact .inl rfl
    ·right;rename_i e hn;subst e;simp at hn ⊢;exact hn
   ·exact .inr rfl
theorem Tt:∀(ds:List Nat) {t:List SV} {d:Nat} {v:SV},d∉ds->(kh ds t).set d v=kh ds (t.set d v)
 | [],_,_,_,_=>rfl
 | d' :: r,t,d,v,h=>by
  rw [kh,kh,Tt r (λh'=>h (by simp [h'])),Lz _ _ (λe=>h (by simp [e]))]
theorem Den.but {ds:List Tmp} {a b:Act} (D:Den f s η H b w) (h:ur ds a b):Den f ⟨kh ds s.t,s.b⟩ η H a w:={ D with
 t:=by
  have h1:=LJ ds D.t
  refine Ts h1 (by simp [h.z]) λd=>?_
  by_cases hd:d∈ds
  ·by_cases hl:d < s.t.length
   ·exact .inl (Md ds hd hl)
   ·right
    have h2:b.tmps.size=s.t.length:=by have:=ik D.t;simpa using this
    rw [ox (by simp [h2];omega),ox (by simp [h.z,h2];omega)]
  ·right
   have:=h.t d hd
   simpa using this.symm
 d:=by rw [h.d];exact D.d }
def oh:List (Nat × Oper × Nat)->List Tmp
 | []=>[]
 | x :: r=>match x.2.1.dst with
  | some d=>d :: oh r
  | none=>oh r
theorem DT:∀{L:List (Nat × Oper × Nat)} {d:Tmp},d∈oh L↔∃x∈L,x.2.1.dst=some d
 | [],d=>by simp [oh]
 | x :: r,d=>by
  unfold oh
  split
  ·rename_i d' iH
   rw [cj,DT]
   constructor
   ·rintro (rfl|⟨y,hy,h⟩)
    ·exact ⟨x,by simp,iH⟩
    ·exact ⟨y,by simp [hy],h⟩
   ·rintro ⟨y,hy,h⟩
    rcases cj.1 hy with rfl|hy
    ·rw [iH] at h;simp at h;exact .inl h.symm
    ·exact .inr ⟨y,hy,h⟩
  ·rename_i iH
   rw [DT]
   constructor
   ·rintro ⟨y,hy,h⟩;exact ⟨y,by simp [hy],h⟩
   ·rintro ⟨y,hy,h⟩
    rcases cj.1 hy with rfl|hy
    ·rw [iH] at h;cases h
    ·exact ⟨y,hy,h⟩
def EM (X:Ctx) (s:St) (o:Oper):Prop:=match o.dst with
 | some d=>match dE X s 0 o.op with
  | .pure v []=>s.t[d]?=some v
  | _=>False
 | none=>False
def Im (X:Ctx):List Oper->St->Prop
 | [],_=>True
 | o :: r,s=>EM X s o/\Im X r s
theorem SE:∀{os:List Oper} {s:St},Im X os s->∀o∈os,EM X s o
 | [],_,_,o,h=>by cases h
 | x :: r,s,h,o,ho=>by
  rcases cj.1 ho with rfl|ho
  ·exact h.1
  ·exact SE h.2 o ho
theorem Tu (C:X.Ok P) {ops:Array Oper} {k:St->Prop}:∀(A:List (Nat × Oper × Nat)) {s:St} {η:Nat->Value} {H:aV} {a:Act},(∀x∈A,oG x.2.1=true)->Den f s η H a w->iO X ops.toList (ol A) s k ->
  ∃s1 a1 η1 H1,Den f s1 η1 H1 a1 w/\k s1/\ur (oh A) a a1
 | [],s,η,H,a,_,D,h=>⟨s,a,η,H,D,h,⟨rfl,rfl,λ_ _=>rfl⟩⟩
 | x :: A,s,η,H,a,hl,D,h=>by
  obtain ⟨s1,h1,h2⟩:=qz.1 h
  obtain ⟨u,η1,H1,D1⟩:=ada C D (hl x (by simp)) h1
  obtain ⟨s2,a2,η2,H2,D2,hk,hs⟩:=Tu C A (λy hy=>hl y (by simp [hy])) D1 h2
  refine ⟨s2,a2,η2,H2,D2,hk,?_⟩
  obtain ⟨d,hd⟩:=Tr (hl x (by simp))
  have Ak:oh (x :: A)=d :: oh A:=by simp only [oh,hd]
  rw [hd] at hs
  refine ⟨by rw [<-hs.d];rfl,by rw [<-hs.z];simp [Act.put],λt ht=>?_⟩
  rw [Ak] at ht
  rw [<-hs.t t (λh=>ht (by simp [h]))]
  simp only [Act.put]
  rw [K2 (λe=>ht (by simp [e]))]
theorem Ro {ops:List Oper} {k:St->Prop}:∀(L1:List (Oper × Nat)) {L2:List (Oper × Nat)} {s:St},iO X ops L1 s (λs1=>iO X ops L2 s1 k)->iO X ops (L1++L2) s k
 | [],_,_,h=>h
 | x :: L1,L2,s,h=>by
  obtain ⟨s1,h1,h2⟩:=qz.1 h
  exact qz.2 ⟨s1,h1,Ro L1 h2⟩
theorem RM {ops:List Oper} {k:St->Prop} {s:St}:∀(A:List (Nat × Oper × Nat)),(∀x∈A,oG x.2.1=true/\EM X s x.2.1)->(∀x∈A,∀d,x.2.1.dst=some d->d∉jx x.2.1.op) ->
  A.Pairwise (λx y=>∀d,y.2.1.dst=some d->d∉jx x.2.1.op/\x.2.1.dst≠some d)->k s->iO X ops (ol A) ⟨kh (oh A) s.t,s.b⟩ k
 | [],_,_,_,h=>h
 | x :: A,hl,zy,hp,h=>by
  rw [eS] at hp
  obtain ⟨jc,cS⟩:=hl x (by simp)
  obtain ⟨d,hd⟩:=Tr jc
  have Ak:oh (x :: A)=d :: oh A:=by simp only [oh,hd]
  have fe:d∉oh A:=λhm=>by
   obtain ⟨y,hy,Ap⟩:=DT.1 hm
   exact (hp.1 y hy d Ap).2 hd
  unfold EM at cS
  rw [hd] at cS
  simp only at cS
  split at cS<;>try exact cS.elim
  rename_i v hv
  rw [Ak]
  refine qz.2 ⟨⟨kh (oh A) s.t,s.b⟩,?_,RM A (λy hy=>hl y (by simp [hy])) (λy hy=>zy y (by simp [hy])) hp.2 h⟩
  unfold Out tv
  rw [abA jc]
  refine ⟨v,[],?_,?_⟩
  ·rw [adb jc,QU X (s:=⟨kh (d :: oh A) s.t,s.b⟩) (s':=s) 0 x.2.1.op (λt ht=>?_) rfl,hv]
   ·exact ⟨rfl,rfl⟩
   ·refine Uh _ λhm=>?_
    rcases cj.1 hm with rfl|hm
    ·exact zy x (by simp) _ hd ht
    ·obtain ⟨y,hy,Ap⟩:=DT.1 hm
     exact (hp.1 y hy t Ap).1 ht
  ·unfold St.iw
   rw [hd]
   simp only [ka]
   rw [kh,Tt _ fe,List.set_set,Hs _ _ _ cS]
def Bt (ops:List Oper) (i:Nat):List Oper:=((ops.take i).zipIdx.filter λp=>!((xJ ops []).getD i 0).testBit p.2).map (·.1)
def U6 (ops:List Oper) (h p:Oper) (j:Nat):Bool:=oG p&&match p.dst with
 | some d=>!(jx h.op).contains d&&(!(jx p.op).contains d&&(ops.take j).all λq=>!(jx q.op).contains d&&q.dst != some d)
 | none=>false
def HS (ops:List Oper) (i:Nat):Bool:=match ops[i]? with
 | some h=>h.guard.isNone&&((match h.op with
  | .call c=>match c.callee with
   | .value (.func _)=>true
   | _=>false
  | _=>false)&&(((ops.take i).zipIdx.all λp=>((xJ ops []).getD i 0).testBit p.2||U6 ops h p.1 p.2) &&
   ((ops.drop (i+1)).zipIdx.all λp=>((xJ ops []).getD (i+1+p.2) 0).testBit i)))
 | none=>false
structure WX (ops:List Oper) (i:Nat) (h:Oper):Prop where
 at_:ops[i]?=some h
 guard:h.guard=none
 call:∃c g,h.op=.call c/\c.callee=.value (.func g)
 uF:∀j p,j < i->ops[j]?=some p->lA ops j i\/(oG p=true/\p∈Bt ops i/\∀d,p.dst=some d->d∉jx h.op/\d∉jx p.op/\∀j' q,j' < j->ops[j']?=some q->d∉jx q.op/\q.dst≠some d)
 back:∀j o,i < j->ops[j]?=some o->lA ops i j
theorem aa9 {ops:List Oper} {i:Nat} (h:HS ops i=true):∃o,WX ops i o:=by
 have hm:=KV ops ops [] [] rfl rfl (λi j h=>by simp at h)
 unfold HS at h
 split at h
 ·rename_i o ho
  simp only [cf,K4] at h
  obtain ⟨h1,h2,h3,h4⟩:=h
  refine ⟨o,ho,h1,?_,λj p hj hp=>?_,λj q hj hq=>?_⟩
  ·split at h2
   ·rename_i c hc
    split at h2
    ·rename_i g hg;exact ⟨c,g,hc,hg⟩
    ·cases h2
   ·cases h2
  ·have fL:(p,j)∈(ops.take i).zipIdx:=by
    rw [Bd,Sa hj]
    exact hp
   have:=gK.1 h3 (p,j) fL
   simp only [oz] at this
   cases hb:((xJ ops []).getD i 0).testBit j with
   | true=>exact .inl (hm i j hb)
   | false =>
    right
    rcases this with h|h
    ·rw [hb] at h;cases h
    unfold U6 at h
    simp only [cf] at h
    refine ⟨h.1,?_,λd hd=>?_⟩
    ·unfold Bt
     exact jO.2 ⟨(p,j),k9.2 ⟨fL,by simp only [hb];rfl⟩,rfl⟩
    ·have h5:=h.2
     rw [hd] at h5
     simp only [cf] at h5
     refine ⟨by simpa using h5.1,by simpa using h5.2.1,λj' q Am hq=>?_⟩
     have h6:=gK.1 h5.2.2 q (by
      refine cL (i:=j') ?_
      rw [Sa Am];exact hq)
     simp only [cf] at h6
     exact ⟨by simpa using h6.1,by simpa using h6.2⟩
  ·have fL:(q,j - (i+1))∈(ops.drop (i+1)).zipIdx:=by
    rw [Bd,jk,show i+1+(j - (i+1))=j by omega]
    exact hq
   have:=gK.1 h4 _ fL
   simp only at this
   rw [show i+1+(j - (i+1))=j by omega] at this
   exact hm j i this
 ·cases h
def Nk (X:Ctx) (call:nh) (S:List SV) (ops:List Oper) (i:Nat) (s:St) (k:St->Prop):Prop:=match ops[i]? with
 | none=>False
 | some h=>match V0 ops s with
  | false=>False
  | true=>iO X ops ((ef ops s.b.length).take i) { s with b:=s.b++iI (nT ops) } λs1 =>
   tG X call S h 0 s1 λs2=>match zx ((ef ops s.b.length).drop (i+1)) s2.b&&xM ops (o6 ops (ef ops s.b.length) s2) ops with
    | true=>Im X (Bt ops i) s2/\iO X ops ((ef ops s.b.length).drop (i+1)) s2 k
    | false=>False
section
variable {P:Program} {X:Ctx} {f f1:Fr} {s:St} {η:Nat->Value} {H:aV} {a a':Act} {w:World} {o:Oper}
theorem ade {ds:List Nat} {s:St} {t:Tmp} {l:Nat} (h:fX ⟨kh ds s.t,s.b⟩ t=some l):fX s t=some l:=by
 unfold fX at h ⊢
 rcases Ui ds (t:=s.t) (d:=t) with h1|h1
 ·simp only [h1,rE] at h
  cases h
 ·simpa only [h1] using h
theorem abB (C:X.Ok P) (I:lx X) {call:nh} (CO:uw P X call) {r:Bool} {F:Fence} (RR:RF r F) {ops:Array Oper} (O:Ordered ops.toList) {hh:Nat × Oper × Nat} (B:WX ops.toList hh.1 hh.2.1) (hs:rH ops.toList=true) {Q0:Act->World->Prop} {k k1:St->Prop}
  (hk:∀s' η' H' a' w',Den f s' η' H' a' w'->k s'->sB Q0 .normal a' w') {R:List (Nat × Oper × Nat)} (r8:∀y∈R,hh.1 < y.1) (tJ:∀y∈R,ops[y.1]?=some y.2.1)
  (kH:∀s2,k1 s2->∃Ks,jT ops s2 R/\(∀ds,nY ops.toList Ks ⟨kh ds s2.t,s2.b⟩)/\(∀y:Nat × Oper × Nat,ops[y.1]?=some y.2.1->oG y.2.1=true->rS ops.toList Ks y.2.1 y.2.2)/\(∀y∈R,rS ops.toList Ks y.2.1 y.2.2)/\(∀q∈Bt ops.toList hh.1,EM X s2 q)/\iO X ops.toList (ol R) s2 k) :
  ∀(n:Nat) (A:List (Nat × Oper × Nat)) {bT:Array Bool} {Ks:Tmp->List Nat} {s:St} {η:Nat->Value} {H:aV} {a:Act} {w:World},A.length+R.length+1=n->(∀y∈A,y.1 < hh.1)->jT ops s A->nY ops.toList Ks s->(∀y∈A,rS ops.toList Ks y.2.1 y.2.2) ->
   ml ops (A++hh :: R) bT->Den f s η H a w->iO X ops.toList (ol A) s (λs1=>tG X call f.sS hh.2.1 0 s1 k1)->wpAnyIn F 0 P .any ops (sB Q0) n bT a w:=by
 intro n
 induction n with
 | zero=>intro A _ _ _ _ _ _ _ hn;omega
 | succ n ih =>
  intro A bT Ks s η H a w hn zO W FA hL Li D h
  have tI:ops[hh.1]?=some hh.2.1:=by simpa using B.at_
  have uG:∀y∈A++hh :: R,ops[y.1]?=some y.2.1:=by
   intro y hy
   rcases eA.1 hy with hy|hy
   ·exact W.get y hy
   ·rcases cj.1 hy with rfl|hy
    ·exact tI
    ·exact tJ y hy
  constructor
  ·intro hr
   cases A with
   | nil =>
    have:=ml.first O Li tI
    rw [hr] at this;cases this
   | cons x A =>
    have:=ml.first O (L:=A++hh :: R) Li (W.get x (by simp))
    rw [hr] at this;cases this
  ·intro i hi
   obtain ⟨h0,o,ho,tk⟩:=mem_ready.1 hi
   have aQ:=(fa.1 ho).1
   obtain ⟨x,hx,rfl⟩:=(Li.list i aQ).1 h0
   rcases eA.1 hx with O4|tH
   ·
    obtain ⟨A1,A2,rfl⟩:=Bm O4
    have gW:=W.get x (by simp)
    have sD:=ml.step (A:=A1) (B:=A2++hh :: R) (by simpa using Li) hi
    have iv:=j9.1 (j9.1 Li.inc).1
    have hA:∀p∈A1,tj ops.toList p.2.1 x.2.1:=by
     intro p oN
     have sA:=W.get p (by simp [oN])
     rcases O.apart x.1 x.2.1 p.1 p.2.1 (by simpa using gW) (by simpa using sA) (iv.2.2 p oN x (by simp)) with hF|jY
     ·exact absurd rfl (Li.uF hi hF (fa.1 sA).1 p (by simp [oN]))
     ·exact GO jY
    have h2:=Eg C x A2 A1 ⟨η,H,a,w,D⟩ FA hL W hA h
    obtain ⟨s1,h3,h4⟩:=qz.1 h2
    have ky:(A1++x :: A2).Perm (x :: (A1++A2)):=Dv
    have fL:x.2.1∈ops.toList:=Array.mem_toList_iff.2 (uc gW)
    have Fv:=FA.out fL (hL x (by simp)) (λf S h=>(C.sp f S h).lr) h3
    have W':=(W.perm ky).tail h3
    have kx:=DC C D gW (λha=>W.un x (by simp) ha) (W.store x (by simp)) h3 (Q:=sB Q0) (K:=λa' w'=>∃η' H',Den f s1 η' H' a' w') λη' H' a' w' D'=>⟨η',H',D'⟩
    unfold wpOp at kx
    unfold wpOpIn
    rw [gW] at kx ⊢
    simp only at kx ⊢
    have fin:∀a' w',(∃η' H',Den f s1 η' H' a' w')->wpAnyIn F 0 P .any ops (sB Q0) n (bT.setIfInBounds x.1 true) a' w':=by
     intro a' w' ⟨η',H',D'⟩
     exact ih (A1++A2) (by simp at hn ⊢;omega) (λy hy=>zO y (ky.mem_iff.2 (by simp only [cj];exact .inr hy))) W' Fv (λy hy=>hL y (ky.mem_iff.2 (by simp only [cj];exact .inr hy))) (by simpa using sD) D' h4
    by_cases hw:Region.wanted x.2.1 (yielded ops a.tmps)=true
    ·rw [if_pos hw] at kx ⊢
     rcases kx with kx|kx
     ·have fe:s8 x.2.1.op=false:=by
       have:=gK.1 hs x.2.1 fL
       cases cS:pO x.2.1.op
       ·rw [cS] at this;simpa using this
       ·cases e8:x.2.1.op<;>rw [e8] at cS<;>first|rfl|cases cS
      exact Oper.wpIn_mono (λa' w' hq=>fin a' w' hq) (vP RR fe kx)
     ·exact absurd kx.2 D7
    ·rw [if_neg hw] at kx ⊢
     exact ⟨λg _=>RR.fn g,fin _ _ kx⟩
   ·rcases cj.1 tH with rfl|tH
    ·
     have uB:∀y∈A,oG y.2.1=true/\y.2.1∈Bt ops.toList x.1/\∀d,y.2.1.dst=some d->d∉jx x.2.1.op/\d∉jx y.2.1.op/\∀j' q,j' < y.1->ops.toList[j']?=some q->d∉jx q.op/\q.dst≠some d:=by
      intro y hy
      rcases B.uF y.1 y.2.1 (zO y hy) (by simpa using W.get y hy) with hF|h
      ·exact absurd rfl (Li.uF hi hF (fa.1 (W.get y hy)).1 y (by simp [hy]))
      ·exact h
     obtain ⟨s1,a1,η1,H1,D1,h1,agL⟩:=Tu C A (λy hy=>(uB y hy).1) D h
     obtain ⟨c,g,IS,Pa⟩:=B.call
     have O3:fh x.2.1.op=false:=by
      rw [IS]
      cases c
      simp only at Pa
      subst Pa
      rfl
     have fM:pO x.2.1.op=false:=by rw [IS];rfl
     have fe:s8 x.2.1.op=false:=by rw [IS];rfl
     have sD:=ml.step (A:=A) (B:=R) Li hi
     unfold wpOpIn
     rw [tI]
     simp only
     rw [if_pos (by simp [Region.wanted,B.guard])]
     refine ab6 RR agL IS Pa (λt ht hm=>?_) (K:=λa' w'=>∃s2 η' H',Den f s2 η' H' a' w'/\k1 s2) (λe a w he h=>by cases e<;>first|exact absurd rfl he|exact h) D7 (λa2 b2 w' gu hb=>?_)
      (Ba C I CO RR (s:=s1) D1 (l:=0) (by intro ha;rw [O3] at ha;cases ha) (by intro ha;rw [fM] at ha;cases ha) fe h1 (Q:=sB Q0) (K:=λa' w'=>∃s2 η' H',Den f s2 η' H' a' w'/\k1 s2) λs' η' H' a' w' D' fF=>⟨s',η',H',D',fF⟩)
     ·obtain ⟨y,hy,Ap⟩:=DT.1 hm
      exact ((uB y hy).2.2 t Ap).1 ht
     obtain ⟨s2,η2,H2,D2,qf⟩:=hb
     obtain ⟨Ks2,W2,O7,hL1,O8,cS,h2⟩:=kH s2 qf
     have D3:=D2.but gu
     have Wb:=(j9.1 Li.inc).1
     have X9:=RM (X:=X) (ops:=ops.toList) (k:=λs3=>iO X ops.toList (ol R) s3 k) (s:=s2) A (λy hy=>⟨(uB y hy).1,cS _ (uB y hy).2.1⟩) (λy hy d hd=>((uB y hy).2.2 d hd).2.1)
      (Wb.imp_of_mem λ{p q} hp hq aQ d hd=>((uB q hq).2.2 d hd).2.2 p.1 p.2.1 aQ (by simpa using W.get p hp)) h2
     have ah6:iO X ops.toList (ol (A++R)) ⟨kh (oh A) s2.t,s2.b⟩ k:=by
      have:=Ro (ol A) X9
      unfold ol at this ⊢
      rwa [vy]
     refine Ug RR hs D7 _ _ _ _ ?_
     refine Ud C O hk n (A++R) (by simp at hn ⊢;omega) ⟨λy hy=>?_,λy hy=>?_,λy hy ha=>?_,?_⟩ sD.inc sD.list sD.all sD.down (O7 _) (λy hy=>?_) D3 ah6
     ·rcases eA.1 hy with hy|hy
      ·exact W.get y hy
      ·exact tJ y hy
     ·rcases eA.1 hy with hy|hy
      ·exact W.store y hy
      ·exact W2.store y hy
     ·rcases eA.1 hy with hy|hy
      ·rw [GR (uB y hy).1] at ha;cases ha
      ·exact W2.un y hy ha
     ·refine j9.2 ⟨Wb.imp_of_mem λ{p q} hp hq _ ha _=>?_,W2.gR,λp hp q hq ha _=>?_⟩
      ·rw [GR (uB p hp).1] at ha;cases ha
      ·rw [GR (uB p hp).1] at ha;cases ha
     ·rcases eA.1 hy with hy|hy
      ·exact hL1 y (W.get y hy) (uB y hy).1
      ·exact O8 y hy
    ·
     have hF:=B.back x.1 x.2.1 (r8 x tH) (by simpa using tJ x tH)
     exact absurd rfl (Li.uF hi hF (fa.1 tI).1 hh (by simp))
theorem aba (C:X.Ok P) (I:lx X) {call:nh} (CO:uw P X call) {r:Bool} {F:Fence} (RR:RF r F) {id:Nat} {ops:Array Oper} (hs:rH ops.toList=true) (hd:DY ops.toList=true) {i:Nat} (hb:HS ops.toList i=true) {Q:Exit->Act->World->Prop} {k:St->Prop}
  (hk:∀s' η' H' a' w',Den f s' η' H' a' w'->k s'->Q .normal a' w') (D:Den f s η H a w) (h:Nk X call f.sS ops.toList i s k):(Code.region id ops true).wpIn F 0 P Q a w:=by
 refine wpIn_mono (Q:=sB (Q .normal)) ?_ (λe a' w' h=>by cases e<;>first|exact h|exact h.elim)
 have hk:∀s' η' H' a' w',Den f s' η' H' a' w'->k s'->sB (Q .normal) .normal a' w':=hk
 have O:=QY hd
 obtain ⟨e8,B⟩:=aa9 hb
 unfold Nk at h
 rw [B.at_] at h
 simp only at h
 split at h
 ·exact h.elim
 rename_i BY
 let n:=s.b.length
 let s0:St:={ s with b:=s.b++iI (nT ops.toList) }
 have D1:=D.ext (nT ops.toList)
 have D2:Den f s0 η H a { w with drawn:=w.drawn+1 }:=D1.grown (GC w none)
 have W:jT ops s0 (items ops.toList n):=KU hs s
 have hlen:(items ops.toList n).length=ops.size:=by
  have:=congrArg List.length (ry ops.toList n)
  simpa using this
 have zP:i < ops.size:=by
  have:=(bq.1 B.at_).1
  simpa using this
 have fk:items ops.toList n=(items ops.toList n).take i++(items ops.toList n)[i]'(by rw [hlen];exact zP) :: (items ops.toList n).drop (i+1):=by
  rw [Se,List.take_append_drop]
 have zN:∀(j:Nat) (x:Nat × Oper × Nat),(items ops.toList n)[j]?=some x->x.1=j/\ops[j]?=some x.2.1/\(ef ops.toList n)[j]?=some x.2:=by
  intro j x hx
  have h1:=W.get x (cL hx)
  have h2:((items ops.toList n).map (·.1))[j]?=some x.1:=by rw [k8,hx];rfl
  rw [ry,Lh (by
   have:=(bq.1 hx).1
   rw [hlen] at this;simpa using this)] at h2
  simp at h2
  have h3:(ol (items ops.toList n))[j]?=some x.2:=by unfold ol;rw [k8,hx];rfl
  rw [vD] at h3
  exact ⟨h2.symm,by rw [h2];exact h1,h3⟩
 have Fx:(items ops.toList n)[i]?=some ((items ops.toList n)[i]'(by rw [hlen];exact zP)):=eB _
 generalize (items ops.toList n)[i]'(by rw [hlen];exact zP)=hh at fk Fx
 obtain ⟨Cw,Jz,_⟩:=zN i hh Fx
 have IQ:hh.2.1=e8:=by
  have:ops[i]?=some e8:=by simpa using B.at_
  rw [Jz] at this;simpa using this
 have inc:(items ops.toList n).Pairwise (λx y=>x.1 < y.1):=by
  have h2:((items ops.toList n).map (·.1)).Pairwise (· < ·):=by rw [ry];exact Bi
  rw [pM] at h2
  exact h2
 have EL:=inc
 rw [fk] at EL
 have BZ:=j9.1 EL
 have O9:ol ((items ops.toList n).take i)=(ef ops.toList n).take i:=by unfold ol;rw [List.map_take];show (ol (items ops.toList n)).take i=_;rw [vD]
 have Fy:ol ((items ops.toList n).drop (i+1))=(ef ops.toList n).drop (i+1):=by unfold ol;rw [List.map_drop];show (ol (items ops.toList n)).drop (i+1)=_;rw [vD]
 have FA:nY ops.toList (o6 ops.toList (ef ops.toList n) s) s0 :=
  ⟨λt A hA l hl=>by
   have hl:fX s t=some l:=hl
   exact De hA (by simp [zk,hl]),Hl,DZ BY⟩
 have r8:∀y∈(items ops.toList n).drop (i+1),hh.1 < y.1:=λy hy=>(eS.1 BZ.2.1).1 y hy
 refine wpIn_region_any C.mixed ?_
 refine abB C I CO RR O (by rw [Cw,IQ];exact B) hs hk (k1:=λs2=>match zx ((ef ops.toList s.b.length).drop (i+1)) s2.b&&xM ops.toList (o6 ops.toList (ef ops.toList s.b.length) s2) ops.toList with
    | true=>Im X (Bt ops.toList i) s2/\iO X ops.toList ((ef ops.toList s.b.length).drop (i+1)) s2 k
    | false=>False) (R:=(items ops.toList n).drop (i+1)) r8
  (λy hy=>W.get y (ue hy)) (λs2 qf=>?_) ops.size ((items ops.toList n).take i) ?_ (λy hy=>BZ.2.2 y hy hh (by simp)) (W.sub (List.take_sublist _ _)) FA
  (λy hy=>Hm s y (vw hy)) ⟨?_,?_,?_,?_⟩ D2 ?_
 ·split at qf
  ·rename_i hq
   simp only [cf] at hq
   refine ⟨o6 ops.toList (ef ops.toList n) s2,⟨λx hx=>W.get x (ue hx),λx hx=>W.store x (ue hx),λx hx ha=>?_,W.gR.sublist (List.drop_sublist _ _)⟩,
    λds=>⟨λt A hA l hl=>De hA (by simp [zk,ade hl]),Hl,DZ hq.2⟩,λy hy hl t A _ _ ha _=>(by rw [GR hl] at ha;cases ha),λy hy=>Hm s2 y (ue hy),
    λq hq=>SE qf.1 q (by rw [Cw] at hq;exact hq),by rw [Fy];exact qf.2⟩
   refine LM hq.1 x.2 ?_ ha
   rw [<-Fy]
   exact Dt hx
  ·exact qf.elim
 ·simp only [lQ,A3,hlen];omega
 ·rw [<-fk];exact inc
 ·intro j hj
  rw [<-fk]
  have:(Array.replicate ops.size false).getD j true=false:=by simp [hj]
  simp only [this,true_iff]
  have hm:j∈(items ops.toList n).map (·.1):=by rw [ry];simpa using hj
  obtain ⟨x,hx,rfl⟩:=jO.1 hm
  exact ⟨x,hx,rfl⟩
 ·intro j
  by_cases hj:j < ops.size
  ·right;left;simp [hj]
  ·right;right;omega
 ·intro j o e ho hl
  exfalso
  by_cases hj:j < ops.size
  ·simp [hj] at hl
  ·simp [hj] at hl
 ·rw [O9,IQ];exact h
end
end
def zz (j:Nat):List Nat->Bool
 | []=>false
 | x :: r=>Nat.beq j x||zz j r
def xQ (L:List Nat) (i:Nat) (o:Oper):Bool:=!zz i L&&o.after.toList.all λe=>!Region.binds .any e||zz e.on L
def vW (L:List Nat):List Oper->Nat->List Nat
 | [],_=>[]
 | o :: r,i=>match xQ L i o with
  | true=>i :: vW L r (i+1)
  | false=>vW L r (i+1)
def MP (f:Nat->Prop):List Nat->Prop
 | []=>True
 | [i]=>f i
 | i :: r=>f i/\MP f r
def zQ (
     X:Ctx) (call:nh) (S:List SV) (ops:List Oper):Nat->List Nat->St->(St->Prop)->Prop
 | 0,L,s,k=>match vW L ops 0 with
  | []=>k s
  | _=>False
 | n+1,L,s,k=>match vW L ops 0 with
  | []=>k s
  | rs=>MP (λi=>match ops[i]? with
   | none=>False
   | some o=>HR ops o s
    (λs=>match fh o.op with
     | true=>tG X call S o s.b.length { s with b:=s.b++[.un] } λs'=>zQ X call S ops n (i :: L) s' k
     | false=>tG X call S o 0 s λs'=>zQ X call S ops n (i :: L) s' k)
    (λs=>pR o s λs'=>zQ X call S ops n (i :: L) s' k)) rs
theorem DD {j:Nat}:∀{l:List Nat},zz j l=true↔j∈l
 | []=>by simp [zz]
 | x :: r=>by simp [zz,yU,DD]
theorem RN {f:Nat->Prop}:∀{l:List Nat},MP f l->∀i∈l,f i
 | [],_,i,h=>by cases h
 | [x],h,i,hi=>by rw [qD] at hi;subst hi;exact h
 | x :: y :: r,h,i,hi=>by
  rcases cj.1 hi with rfl|hi
  ·exact h.1
  ·exact RN h.2 i hi
theorem Me {L:List Nat}:∀{ops:List Oper} {n i:Nat},i∈vW L ops n↔n<=i/\∃o,ops[i - n]?=some o/\xQ L i o=true
 | [],n,i=>by simp [vW]
 | o :: r,n,i=>by
  have ih:=@Me L r (n+1) i
  have e:(n<=i/\∃p,(o :: r)[i - n]?=some p/\xQ L i p=true)↔(i=n/\xQ L n o=true)\/(n+1<=i/\∃p,r[i - (n+1)]?=some p/\xQ L i p=true):=by
   constructor
   ·rintro ⟨h,p,hp,hb⟩
    rcases Nat.eq_or_lt_of_le h with rfl|h
    ·rw [yT] at hp;cases hp;exact .inl ⟨rfl,hb⟩
    ·rw [show i - n=(i - (n+1))+1 by omega] at hp
     exact .inr ⟨h,p,hp,hb⟩
   ·rintro (⟨rfl,hb⟩|⟨h,p,hp,hb⟩)
    ·exact ⟨fP _,o,by rw [yT];rfl,hb⟩
    ·exact ⟨by omega,p,by rw [show i - n=(i - (n+1))+1 by omega];exact hp,hb⟩
  rw [e,<-ih]
  show i∈(match xQ L n o with|true=>n :: vW L r (n+1)|false=>vW L r (n+1))↔_
  split
  ·rename_i hb
   rw [cj]
   constructor
   ·rintro (rfl|h)
    ·exact .inl ⟨rfl,hb⟩
    ·exact .inr h
   ·rintro (⟨rfl,-⟩|h)
    ·exact .inl rfl
    ·exact .inr h
  ·rename_i hb
   constructor
   ·exact .inr
   ·rintro (⟨-,h⟩|h)
    ·rw [hb] at h;cases h
    ·exact h
section
variable {P:Program} {X:Ctx} {f:Fr}
structure xR (ops:Array Oper) (L:List Nat) (bT:Array Bool):Prop where
 size:bT.size=ops.size
 at_:∀j,j < ops.size->(bT.getD j true=true↔j∈L)
theorem xR.Ym {ops:Array Oper} {L:List Nat} {bT:Array Bool} (h:xR ops L bT) (hb:∀j∈L,j < ops.size) (j:Nat):bT.getD j false=true↔j∈L:=by
 by_cases hj:j < ops.size
 ·rw [<-h.at_ j hj]
  have:j < bT.size:=by rw [h.size];exact hj
  simp [this]
 ·have h1:¬j < bT.size:=by rw [h.size];exact hj
  constructor
  ·intro e;simp [h1] at e
  ·intro e;exact absurd (hb j e) hj
theorem xR.ready {ops:Array Oper} {L:List Nat} {bT:Array Bool} (h:xR ops L bT) (hb:∀j∈L,j < ops.size) (i:Nat):i∈Region.ready .any ops bT↔i∈vW L ops.toList 0:=by
 rw [mem_ready,Me]
 constructor
 ·rintro ⟨h0,o,ho,eV⟩
  have aQ:i < ops.size:=(fa.1 ho).1
  refine ⟨cK _,o,by rw [Dz];simpa using ho,?_⟩
  simp only [xQ,cf,nK,gK,oz]
  refine ⟨?_,λe he=>?_⟩
  ·cases hq:zz i L
   ·rfl
   ·have:=(h.at_ i aQ).2 (DD.1 hq);rw [h0] at this;cases this
  ·cases Pb:Region.binds .any e
   ·exact .inl rfl
   ·exact .inr (DD.2 ((h.Ym hb e.on).1 (eV e (by simpa using he) Pb)))
 ·rintro ⟨-,o,ho,hr⟩
  rw [Dz] at ho
  have ho:ops[i]?=some o:=by simpa using ho
  have aQ:i < ops.size:=(fa.1 ho).1
  simp only [xQ,cf,nK,gK,oz] at hr
  refine ⟨?_,o,ho,λe he Pb=>?_⟩
  ·cases hq:bT.getD i true
   ·rfl
   ·have:=DD.2 ((h.at_ i aQ).1 hq);rw [hr.1] at this;cases this
  ·rcases hr.2 e (by simpa using he) with h1|h1
   ·rw [Pb] at h1;cases h1
   ·exact (h.Ym hb e.on).2 (DD.1 h1)
theorem xR.set {ops:Array Oper} {L:List Nat} {bT:Array Bool} (h:xR ops L bT) {i:Nat} (hi:i < ops.size):xR ops (i :: L) (bT.setIfInBounds i true):=by
 refine ⟨by simp [h.size],λj hj=>?_⟩
 have e7:j < bT.size:=by rw [h.size];exact hj
 by_cases e:i=j
 ·subst e;simp [e7]
 ·rw [getD_set_ne true e,h.at_ j hj,cj]
  constructor
  ·exact .inr
  ·rintro (rfl|h)
   ·exact absurd rfl e
   ·exact h
theorem GS (C:X.Ok P) (I:lx X) {call:nh} (CO:uw P X call) {r0:Bool} {F:Fence} (R:RF r0 F) {ops:Array Oper} (cS:rH ops.toList=true)
  {Q:Exit->Act->World->Prop} {k:St->Prop} (hk:∀s' η' H' a' w',Den f s' η' H' a' w'->k s'->Q .normal a' w') :
  ∀(n:Nat) (L:List Nat) (bT:Array Bool) {s:St} {η:Nat->Value} {H:aV} {a:Act} {w:World},xR ops L bT->(∀j∈L,j < ops.size)->Den f s η H a w->zQ X call f.sS ops.toList n L s k->wpAnyIn F 0 P .any ops Q n bT a w
 | 0,L,bT,s,η,H,a,w,A,hb,D,h=>by
  unfold zQ at h
  split at h
  ·rename_i hr
   refine ⟨DI.2 λi hi=>?_,hk _ _ _ _ _ D h⟩
   rw [A.ready hb,hr] at hi;cases hi
  ·exact h.elim
 | n+1,L,bT,s,η,H,a,w,A,hb,D,h=>by
  unfold zQ at h
  refine ⟨λh0=>?_,λi hi=>?_⟩
  ·split at h
   ·exact hk _ _ _ _ _ D h
   ·rename_i rs bM
    exfalso
    apply bM
    refine DI.2 λi hi=>?_
    rw [<-A.ready hb,h0] at hi;cases hi
  ·have jY:=(A.ready hb i).1 hi
   split at h
   ·rename_i hr;rw [hr] at jY;cases jY
   have h:=RN h i jY
   obtain ⟨-,o,ho,-⟩:=Me.1 jY
   rw [Dz] at ho
   rw [ho] at h
   have hi:ops[i]?=some o:=by simpa using ho
   have aQ:i < ops.size:=(fa.1 hi).1
   have A':=A.set aQ
   have gz:∀j∈i :: L,j < ops.size:=λj hj=>by
    rcases cj.1 hj with rfl|hj
    ·exact aQ
    ·exact hb j hj
   have eV:=gK.1 cS o (by simpa using uc hi)
   have An:Bs o:=by
    intro he
    rw [he] at eV
    simpa using eV
   have fe:s8 o.op=false:=by
    cases cS:pO o.op
    ·rw [cS] at eV;simpa using eV
    ·cases e8:o.op<;>rw [e8] at cS<;>first|rfl|cases cS
   unfold wpOpIn
   rw [hi]
   simp only at h ⊢
   obtain ⟨s0,D0,-,h|h⟩:=SB D (ops:=ops) h
   ·rw [if_pos h.1]
    have h2:=h.2
    split at h2
    ·refine Ba C I CO R (s:={ s0 with b:=s0.b++[.un] }) (D0.ext 1) (λ_=>by simp) An fe h2 λs' η' H' a' w' D' fF=>?_
     exact GS C I CO R cS hk n (i :: L) _ A' gz D' fF
    ·rename_i nk
     refine Ba C I CO R D0 (λha=>by rw [nk] at ha;cases ha) An fe h2 λs' η' H' a' w' D' fF=>?_
     exact GS C I CO R cS hk n (i :: L) _ A' gz D' fF
   ·rw [if_neg (by rw [h.1];simp)]
    have h2:=h.2
    unfold pR at h2
    exact ⟨λg _=>R.fn g,GS C I CO R cS hk n (i :: L) _ A' gz (D0.put o.dst (x:=.bX []) (by simp only [rel];exact ⟨[],rfl,by simp [aK]⟩)) h2⟩
end
end Go.Vc
