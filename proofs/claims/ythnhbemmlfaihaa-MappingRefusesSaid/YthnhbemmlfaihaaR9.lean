import Derived.Test.YthnhbemmlfaihaaR8
set_option linter.unusedVariables false
set_option linter.unusedSimpArgs false
set_option maxRecDepth 10000
set_option maxHeartbeats 64000000
namespace Go.Vc
open Go
def Still {α:Type} (P:Program) (m:Sem α):Prop:=∀w x w',m.run P w=.ok x w'->w'=w
section still
variable {P:Program}
theorem th {α:Type} (x:α):Still P (pure x:Sem α):=by
 intro w y w' h
 simp only [Sem.run_pure,Result.ok.injEq] at h
 exact h.2.symm
theorem qL {α β:Type} {m:Sem α} {f:α->Sem β} (h:Still P m) (h':∀x,Still P (f x)):Still P (m >>= f):=by
 intro w x w' e
 rw [Sem.run_bind] at e
 cases hm:m.run P w with
 | ok y w1 =>
  rw [hm] at e
  simp only [Result.andThen] at e
  obtain rfl:=h _ _ _ hm
  exact h' _ _ _ _ e
 | halt x w1=>rw [hm] at e;simp [Result.andThen] at e
theorem Bt {α:Type} (m:String):Still P (stuck m:Sem α):=by
 intro w y w' h;simp at h
theorem RU {α:Type} (m:Unsupported):Still P (unsupported m:Sem α):=by
 intro w y w' h;simp at h
theorem Hg:Still P program:=by
 intro w y w' h;simp at h;exact h.2.symm
theorem RV (r:Nat):Still P (shape r):=by
 intro w y w' h;simp at h;exact h.2.symm
theorem Sk (a:Addr) (m:Mode):Still P (load a m):=by
 intro w y w' h
 rw [run_load] at h
 split at h
 ·simp at h;exact h.2.symm
 ·split at h
  ·simp at h;exact h.2.symm
  ·simp at h
theorem ab9 (t:TypeId):Still P (typeInfo t):=by
 unfold typeInfo
 refine qL Hg λp=>?_
 split
 ·exact th _
 ·exact Bt _
theorem Tc (t:TypeId):Still P (underlying t):=by
 unfold underlying
 refine qL Hg λp=>?_
 split
 ·exact th _
 ·exact Bt _
theorem abK (t:TypeId):Still P (isAgg t):=by
 unfold isAgg
 refine qL (Tc t) λp=>?_
 split<;>exact th _
theorem RC (t:TypeId):Still P (sizeOf t):=by
 unfold sizeOf
 exact qL (ab9 t) λp=>th _
theorem RW (a:Addr):∀(n i:Nat) (acc:Array Value),Still P (loadCellsFrom a i n acc)
 | 0,i,acc=>th _
 | n+1,i,acc=>qL (Sk _ _) λv=>RW a n (i+1) _
theorem abj (t:TypeId) (a:Addr):Still P (loadVar t a):=by
 unfold loadVar
 refine qL (abK t) λp=>?_
 split
 ·refine qL (RC t) λn=>qL ?_ λx=>th _
  exact RW a n 0 #[]
 ·exact Sk a _
theorem Sl (v:Value):Still P (Instr.sureAddr v):=by
 unfold Instr.sureAddr
 split
 ·exact th _
 ·exact Bt _
theorem abr (t:TypeId) (v:Value):Still P (Instr.loadAt t v):=by
 unfold Instr.loadAt
 exact qL (Sl v) λa=>abj t a
theorem abt (r:Nat):Still P (getObj r):=by
 intro w y w' h
 simp only [getObj,Sem.run] at h
 repeat' split at h
 all_goals first|(simp at h;exact h.2.symm)|simp at h
theorem aca (a:Addr):Still P (noView a):=by
 unfold noView viewAt
 (repeat' first|exact abt _|exact th _|exact Bt _|exact RU _|exact RV _|exact Hg|refine qL ?_ λ_=>?_|split)
theorem abu (a:Addr):Still P (byteOf a):=by
 unfold byteOf
 (repeat' first|exact th _|exact Bt _|exact RU _|exact RV _|exact Hg|exact aca _|refine qL ?_ λ_=>?_|split|dsimp only)
theorem abL (a:Addr) (f:Field):Still P (fieldPlace a f):=by
 unfold fieldPlace partAt
 (repeat' first|exact th _|exact RC _|exact abu _|refine qL ?_ λ_=>?_|split)
theorem abk (t:TypeId) (v:Value) (j:Nat):Still P (Instr.fieldAt t v j):=by
 unfold Instr.fieldAt
 (repeat' first|exact th _|exact Bt _|exact Tc _|exact Sl _|exact abL _ _|refine qL ?_ λ_=>?_|split)
end still
def oU (o:Oper):Bool:=o.guard.isNone&&(o.dst.isSome&&match o.op with
 | .move _|.nilCheck _|.fieldAddr ..|.load ..=>true
 | _=>false)
section
variable {P:Program} {X:Ctx} {f f1:Fr} {s:St} {η:Nat->Value} {H:aV} {a a':Act} {w:World} {o:Oper}
theorem adK (C:X.Ok P) (D:Den f s η H a w) (hl:oU o=true) {ops:List Oper} {l:Nat} {s1:St} (h:Out X ops o l s s1):∃u η' H',Den f s1 η' H' (a.put o.dst u) w:=by
 unfold oU at hl
 simp only [cu,Ly] at hl
 obtain ⟨hg,hd,ff⟩:=hl
 unfold Out tK at h
 rw [hg] at h
 obtain ⟨x,u,ho,e⟩:=h
 have hk:=(dR.IQ (dN X s l o.op) (λx' u'=>x'=x/\u'=u)).2 ⟨x,u,ho,rfl,rfl⟩
 have hna:fl o.op=true->s.b[l]?=some .un:=by
  intro ha
  cases pF:o.op<;>rw [pF] at ff ha<;>first|(cases ff;done)|(simp [fl] at ha;done)
 have F2:qa o.op=true->o.dst=none:=by
  intro ha
  cases pF:o.op<;>rw [pF] at ff ha<;>first|(cases ff;done)|(simp [qa] at ha;done)
 obtain ⟨x',u',⟨rfl,rfl⟩,F5⟩:=Mh (R:=λx' u'=>x'=x/\u'=u) C D (l:=l) hna F2 hk
 have hw:=F5 (λa' w'=>∃η' H',Den f s1 η' H' a' w') (λ_ _ _=>False) (λη' H' w' v D'=>⟨η',H',by rw [e];exact D'⟩)
 have afR:∀z w',(execOp a.eval o).run P w=.ok z w'->w'=w/\∃v,z=.value v:=by
  intro z w' hz
  have fin:∀m:Sem Value,Still P m->(do pure (.value (<-m)):Sem Next).run P w=.ok z w'->w'=w/\∃v,z=.value v:=by
   intro m hm hz
   rw [Sem.run_bind] at hz
   cases hr:m.run P w with
   | ok y w1 =>
    rw [hr] at hz
    simp only [Result.andThen,Sem.run_pure,Result.ok.injEq] at hz
    exact ⟨by rw [<-hz.2];exact hm _ _ _ hr,y,hz.1.symm⟩
   | halt y w1=>rw [hr] at hz;simp [Result.andThen] at hz
  cases pF:o.op<;>rw [pF] at ff<;>try (cases ff;done)
  case move x =>
   simp only [execOp,pF,Sem.run_pure,Result.ok.injEq] at hz
   exact ⟨hz.2.symm,_,hz.1.symm⟩
  case load t x =>
   simp only [execOp,pF] at hz
   exact fin _ (abr _ _) hz
  case fieldAddr t x j =>
   simp only [execOp,pF] at hz
   exact fin _ (abk _ _ _) hz
  case nilCheck x =>
   rw [pF] at hk
   simp only [dN] at hk
   have hx:=D.ev x
   have pt:(∃ad,a.eval x=.pointer (some ad))\/∃g fs cs,a.eval x=.func (.func g) fs cs:=by
    split at hk<;>first|exact hk.elim|skip
    ·rename_i l off e
     rw [e] at hx
     left
     simp only [rel] at hx
     split at hx
     ·exact hx.elim
     ·exact hx
     ·obtain ⟨bl,_,h⟩:=hx;exact ⟨_,h⟩
    ·rename_i cs off e
     rw [e] at hx
     left
     simp only [rel] at hx
     obtain ⟨ad,h,_⟩:=hx;exact ⟨_,h⟩
    ·rename_i g fs cs e
     rw [e] at hx
     right
     simp only [rel] at hx
     obtain ⟨us,vs,h,_⟩:=hx
     exact ⟨_,_,_,h⟩
   rcases pt with ⟨ad,hp⟩|⟨g,fs,cs,hp⟩
   ·simp only [execOp,pF,hp,Sem.run_pure,Result.ok.injEq] at hz
    exact ⟨hz.2.symm,_,hz.1.symm⟩
   ·simp only [execOp,pF,hp,Sem.run_pure,Result.ok.injEq] at hz
    exact ⟨hz.2.symm,_,hz.1.symm⟩
 unfold Oper.wp at hw
 cases hz:(execOp a.eval o).run P w with
 | ok z w' =>
  obtain ⟨rfl,v,rfl⟩:=afR z w' hz
  rw [hz] at hw
  obtain ⟨η',H',D'⟩:=hw
  exact ⟨v,η',H',D'⟩
 | halt z w'=>rw [hz] at hw;cases z<;>simp only [Oper.upon] at hw
theorem Ht (hl:oU o=true):fl o.op=false:=by
 unfold oU at hl
 simp only [cu] at hl
 obtain ⟨_,_,ff⟩:=hl
 cases pF:o.op<;>rw [pF] at ff<;>first|(cases ff;done)|rfl
theorem adL (hl:oU o=true) (s:St) (l:Nat):dN X s l o.op=dN X s 0 o.op:=by
 unfold oU at hl
 simp only [cu] at hl
 obtain ⟨_,_,ff⟩:=hl
 cases pF:o.op<;>rw [pF] at ff<;>first|(cases ff;done)|rfl
theorem T4 (hl:oU o=true):∃d,o.dst=some d:=by
 unfold oU at hl
 simp only [cu] at hl
 exact qP.1 hl.2.1
theorem acb (hl:oU o=true):o.guard=none:=by
 unfold oU at hl
 simp only [cu,Ly] at hl
 exact hl.1
structure uF (ds:List Tmp) (a b:Act):Prop where
 d:a.defers=b.defers
 z:a.tmps.size=b.tmps.size
 t:∀d,d∉ds->a.tmps[d]?=b.tmps[d]?
theorem uF.put {ds:List Tmp} {a b:Act} (h:uF ds a b) (dst:Option Tmp) (v:Value):uF ds (a.put dst v) (b.put dst v):=by
 cases dst with
 | none=>exact h
 | some d =>
  refine ⟨h.d,by simp [Act.put,h.z],λd' jm=>?_⟩
  simp only [Act.put,Array.getElem?_setIfInBounds]
  rw [h.t d' jm,h.z]
theorem uF.ev {ds:List Tmp} {a b:Act} (h:uF ds a b) {x:Operand} (hx:∀t,x=.tmp t->t∉ds):a.eval x=b.eval x:=by
 cases x with
 | tmp t =>
  have:=h.t t (hx t rfl)
  simp only [Act.eval,Ep,this]
 | _=>rfl
theorem acK {r:Bool} {F:Fence} (R:RF r F) {ds:List Tmp} {a b:Act} (hs:uF ds a b) {c:Call} {g:FuncId} (ho:o.op=.call c) (hc:c.callee=.value (.func g)) (hd:∀t∈jD o.op,t∉ds)
  {K K':Act->World->Prop} {Q:Exit->Act->World->Prop} (hQ:∀e a w,e≠.normal->¬Q e a w) (hQ':¬LetsOut Q) (hK:∀a1 b1 w',uF ds a1 b1->K b1 w'->K' a1 w') (h:o.wpIn F 0 P b w K Q):o.wpIn F 0 P a w K' Q:=by
 have hev:c.args.map a.eval=c.args.map b.eval:=Array.map_congr_left λx hx=>hs.ev λt ht=>hd t (by
  subst ht
  rw [ho]
  exact By.2 ⟨.tmp t,by simpa [Op.operands] using Hm (Array.mem_toList_iff.2 hx),rfl⟩)
 have gu:resolve a.eval c o.type=resolve b.eval c o.type:=by
  unfold resolve
  rw [hc,hev]
  rfl
 have hex:o.semAt F.round a.eval=o.semAt F.round b.eval:=by
  rw [Oper.semAt_eq _ _ _ (λc' e=>by rw [ho] at e;cases e),Oper.semAt_eq _ _ _ (λc' e=>by rw [ho] at e;cases e)]
  unfold execOp
  rw [ho]
  simp only [gu]
 refine ⟨λf _=>R.fn f,?_⟩
 have h2:=h.2
 rw [hex]
 generalize (o.semAt F.round b.eval).run P w=z at *
 cases z with
 | ok x w' =>
  cases x<;>simp only [Oper.uponIn] at h2 ⊢
  case value v=>exact hK _ _ _ (hs.put _ _) h2
  case skip=>exact hK _ _ _ (hs.put _ _) h2
  case defer dd=>exact hK _ _ _ (uF.put (a:={ a with defers:=dd :: a.defers }) (b:={ b with defers:=dd :: b.defers }) ⟨by simp [hs.d],hs.z,hs.t⟩ _ _) h2
  case enter=>exact ⟨h2.1,CallsIn.mono h2.2 λe F8 he=>by cases e<;>first|exact hK _ _ _ (hs.put _ _) he|exact absurd he (hQ _ _ _ (by simp))|exact he⟩
  case row=>exact ⟨h2.1,RowsIn.mono h2.2 λv F8 he=>hK _ _ _ (hs.put _ _) he⟩
  case round=>exact ⟨h2.1,RoundIn.mono h2.2 λe F8 he=>by cases e<;>first|exact hK _ _ _ (hs.put _ _) he|exact absurd he (hQ _ _ _ (by simp))|exact he⟩
  all_goals exact h2
 | halt x w'=>cases x<;>simp only [Oper.uponIn] at h2 ⊢<;>first|exact h2|exact absurd h2 (hQ _ _ _ (by simp))
theorem T5 {q:Nat->Live}:∀{t:List SV} {vs lQ:List Value},aK η q H t vs->vs.length=lQ.length->(∀d:Nat,t[d]?=some .any\/vs[d]?=lQ[d]?)->aK η q H t lQ
 | [],vs,lQ,h,hl,_=>by
  simp only [aK] at h ⊢
  subst h
  cases lQ with
  | nil=>rfl
  | cons=>simp at hl
 | x :: r,vs,lQ,h,hl,hd=>by
  simp only [aK] at h ⊢
  obtain ⟨v,vs1,rfl,h1,h2⟩:=h
  cases lQ with
  | nil=>simp at hl
  | cons v' aiL =>
   refine ⟨v',aiL,rfl,?_,T5 h2 (by simpa using hl) λd=>by simpa using hd (d+1)⟩
   rcases hd 0 with h|h
   ·simp at h;subst h;simp only [rel]
   ·simp at h;subst h;exact h1
theorem UN:∀(ds:List Nat) {t:List SV} {d:Nat},d∉ds->(kA ds t)[d]?=t[d]?
 | [],_,_,_=>rfl
 | d' :: r,t,d,h=>by
  rw [kA,UN r (λh'=>h (by simp [h'])),fU (λe=>h (by simp [e]))]
theorem UO:∀(ds:List Nat) {t:List SV} {d:Nat},(kA ds t)[d]?=some .any\/(kA ds t)[d]?=t[d]?
 | [],_,_=>.inr rfl
 | d' :: r,t,d=>by
  rw [kA]
  rcases UO r (t:=t.set d' .any) (d:=d) with h|h
  ·exact .inl h
  ·rw [h,iN]
   split
   ·split
    ·exact .inl rfl
    ·right;rename_i e hn;subst e;simp at hn ⊢;exact hn
   ·exact .inr rfl
theorem T6:∀(ds:List Nat) {t:List SV} {d:Nat} {v:SV},d∉ds->(kA ds t).set d v=kA ds (t.set d v)
 | [],_,_,_,_=>rfl
 | d' :: r,t,d,v,h=>by
  rw [kA,kA,T6 r (λh'=>h (by simp [h'])),Mc _ _ (λe=>h (by simp [e]))]
theorem Den.but {ds:List Tmp} {a b:Act} (D:Den f s η H b w) (h:uF ds a b):Den f ⟨kA ds s.t,s.b⟩ η H a w:={ D with
 t:=by
  have h1:=Mk ds D.t
  refine T5 h1 (by simp [h.z]) λd=>?_
  by_cases hd:d∈ds
  ·by_cases hl:d < s.t.length
   ·exact .inl (MG ds hd hl)
   ·right
    have h2:b.tmps.size=s.t.length:=by have:=gZ D.t;simpa using this
    rw [l7 (by simp [h2];omega),l7 (by simp [h.z,h2];omega)]
  ·right
   have:=h.t d hd
   simpa using this.symm
 d:=by rw [h.d];exact D.d }
def oz:List (Nat × Oper × Nat)->List Tmp
 | []=>[]
 | x :: r=>match x.2.1.dst with
  | some d=>d :: oz r
  | none=>oz r
theorem EB:∀{L:List (Nat × Oper × Nat)} {d:Tmp},d∈oz L↔∃x∈L,x.2.1.dst=some d
 | [],d=>by simp [oz]
 | x :: r,d=>by
  unfold oz
  split
  ·rename_i d' jm
   rw [cx,EB]
   constructor
   ·rintro (rfl|⟨y,hy,h⟩)
    ·exact ⟨x,by simp,jm⟩
    ·exact ⟨y,by simp [hy],h⟩
   ·rintro ⟨y,hy,h⟩
    rcases cx.1 hy with rfl|hy
    ·rw [jm] at h;simp at h;exact .inl h.symm
    ·exact .inr ⟨y,hy,h⟩
  ·rename_i jm
   rw [EB]
   constructor
   ·rintro ⟨y,hy,h⟩;exact ⟨y,by simp [hy],h⟩
   ·rintro ⟨y,hy,h⟩
    rcases cx.1 hy with rfl|hy
    ·rw [jm] at h;cases h
    ·exact ⟨y,hy,h⟩
def Ft (X:Ctx) (s:St) (o:Oper):Prop:=match o.dst with
 | some d=>match dN X s 0 o.op with
  | .pure v []=>s.t[d]?=some v
  | _=>False
 | none=>False
def IX (X:Ctx):List Oper->St->Prop
 | [],_=>True
 | o :: r,s=>Ft X s o/\IX X r s
theorem Td:∀{os:List Oper} {s:St},IX X os s->∀o∈os,Ft X s o
 | [],_,_,o,h=>by cases h
 | x :: r,s,h,o,ho=>by
  rcases cx.1 ho with rfl|ho
  ·exact h.1
  ·exact Td h.2 o ho
theorem T7 (C:X.Ok P) {ops:Array Oper} {k:St->Prop}:∀(A:List (Nat × Oper × Nat)) {s:St} {η:Nat->Value} {H:aV} {a:Act},(∀x∈A,oU x.2.1=true)->Den f s η H a w->iR X ops.toList (ol A) s k ->
  ∃s1 a1 η1 H1,Den f s1 η1 H1 a1 w/\k s1/\uF (oz A) a a1
 | [],s,η,H,a,_,D,h=>⟨s,a,η,H,D,h,⟨rfl,rfl,λ_ _=>rfl⟩⟩
 | x :: A,s,η,H,a,hl,D,h=>by
  obtain ⟨s1,h1,h2⟩:=qM.1 h
  obtain ⟨u,η1,H1,D1⟩:=adK C D (hl x (by simp)) h1
  obtain ⟨s2,a2,η2,H2,D2,hk,hs⟩:=T7 C A (λy hy=>hl y (by simp [hy])) D1 h2
  refine ⟨s2,a2,η2,H2,D2,hk,?_⟩
  obtain ⟨d,hd⟩:=T4 (hl x (by simp))
  have AL:oz (x :: A)=d :: oz A:=by simp only [oz,hd]
  rw [hd] at hs
  refine ⟨by rw [<-hs.d];rfl,by rw [<-hs.z];simp [Act.put],λt ht=>?_⟩
  rw [AL] at ht
  rw [<-hs.t t (λh=>ht (by simp [h]))]
  simp only [Act.put]
  rw [Lw (λe=>ht (by simp [e]))]
theorem RX {ops:List Oper} {k:St->Prop}:∀(L1:List (Oper × Nat)) {L2:List (Oper × Nat)} {s:St},iR X ops L1 s (λs1=>iR X ops L2 s1 k)->iR X ops (L1++L2) s k
 | [],_,_,h=>h
 | x :: L1,L2,s,h=>by
  obtain ⟨s1,h1,h2⟩:=qM.1 h
  exact qM.2 ⟨s1,h1,RX L1 h2⟩
theorem Sm {ops:List Oper} {k:St->Prop} {s:St}:∀(A:List (Nat × Oper × Nat)),(∀x∈A,oU x.2.1=true/\Ft X s x.2.1)->(∀x∈A,∀d,x.2.1.dst=some d->d∉jD x.2.1.op) ->
  A.Pairwise (λx y=>∀d,y.2.1.dst=some d->d∉jD x.2.1.op/\x.2.1.dst≠some d)->k s->iR X ops (ol A) ⟨kA (oz A) s.t,s.b⟩ k
 | [],_,_,_,h=>h
 | x :: A,hl,uR,hp,h=>by
  rw [eX] at hp
  obtain ⟨jj,db⟩:=hl x (by simp)
  obtain ⟨d,hd⟩:=T4 jj
  have AL:oz (x :: A)=d :: oz A:=by simp only [oz,hd]
  have fB:d∉oz A:=λhm=>by
   obtain ⟨y,hy,AP⟩:=EB.1 hm
   exact (hp.1 y hy d AP).2 hd
  unfold Ft at db
  rw [hd] at db
  simp only at db
  split at db<;>try exact db.elim
  rename_i v hv
  rw [AL]
  refine qM.2 ⟨⟨kA (oz A) s.t,s.b⟩,?_,Sm A (λy hy=>hl y (by simp [hy])) (λy hy=>uR y (by simp [hy])) hp.2 h⟩
  unfold Out tK
  rw [acb jj]
  refine ⟨v,[],?_,?_⟩
  ·rw [adL jj,Rw X (s:=⟨kA (d :: oz A) s.t,s.b⟩) (s':=s) 0 x.2.1.op (λt ht=>?_) rfl,hv]
   ·exact ⟨rfl,rfl⟩
   ·refine UN _ λhm=>?_
    rcases cx.1 hm with rfl|hm
    ·exact uR x (by simp) _ hd ht
    ·obtain ⟨y,hy,AP⟩:=EB.1 hm
     exact (hp.1 y hy t AP).1 ht
  ·unfold St.iz
   rw [hd]
   simp only [kr]
   rw [kA,T6 _ fB,List.set_set,HX _ _ _ db]
def BV (ops:List Oper) (i:Nat):List Oper:=((ops.take i).zipIdx.filter λp=>!((x8 ops []).getD i 0).testBit p.2).map (·.1)
def VF (ops:List Oper) (h p:Oper) (j:Nat):Bool:=oU p&&match p.dst with
 | some d=>!(jD h.op).contains d&&(!(jD p.op).contains d&&(ops.take j).all λq=>!(jD q.op).contains d&&q.dst != some d)
 | none=>false
def IA (ops:List Oper) (i:Nat):Bool:=match ops[i]? with
 | some h=>h.guard.isNone&&((match h.op with
  | .call c=>match c.callee with
   | .value (.func _)=>true
   | _=>false
  | _=>false)&&(((ops.take i).zipIdx.all λp=>((x8 ops []).getD i 0).testBit p.2||VF ops h p.1 p.2) &&
   ((ops.drop (i+1)).zipIdx.all λp=>((x8 ops []).getD (i+1+p.2) 0).testBit i)))
 | none=>false
structure XB (ops:List Oper) (i:Nat) (h:Oper):Prop where
 at_:ops[i]?=some h
 guard:h.guard=none
 call:∃c g,h.op=.call c/\c.callee=.value (.func g)
 uW:∀j p,j < i->ops[j]?=some p->lM ops j i\/(oU p=true/\p∈BV ops i/\∀d,p.dst=some d->d∉jD h.op/\d∉jD p.op/\∀j' q,j' < j->ops[j']?=some q->d∉jD q.op/\q.dst≠some d)
 back:∀j o,i < j->ops[j]?=some o->lM ops i j
theorem abM {ops:List Oper} {i:Nat} (h:IA ops i=true):∃o,XB ops i o:=by
 have hm:=Lp ops ops [] [] rfl rfl (λi j h=>by simp at h)
 unfold IA at h
 split at h
 ·rename_i o ho
  simp only [cu,Ly] at h
  obtain ⟨h1,h2,h3,h4⟩:=h
  refine ⟨o,ho,h1,?_,λj p hj hp=>?_,λj q hj hq=>?_⟩
  ·split at h2
   ·rename_i c hc
    split at h2
    ·rename_i g hg;exact ⟨c,g,hc,hg⟩
    ·cases h2
   ·cases h2
  ·have fQ:(p,j)∈(ops.take i).zipIdx:=by
    rw [BJ,SJ hj]
    exact hp
   have:=im.1 h3 (p,j) fQ
   simp only [oO] at this
   cases hb:((x8 ops []).getD i 0).testBit j with
   | true=>exact .inl (hm i j hb)
   | false =>
    right
    rcases this with h|h
    ·rw [hb] at h;cases h
    unfold VF at h
    simp only [cu] at h
    refine ⟨h.1,?_,λd hd=>?_⟩
    ·unfold BV
     exact jW.2 ⟨(p,j),lD.2 ⟨fQ,by simp only [hb];rfl⟩,rfl⟩
    ·have h5:=h.2
     rw [hd] at h5
     simp only [cu] at h5
     refine ⟨by simpa using h5.1,by simpa using h5.2.1,λj' q AN hq=>?_⟩
     have h6:=im.1 h5.2.2 q (by
      refine cN (i:=j') ?_
      rw [SJ AN];exact hq)
     simp only [cu] at h6
     exact ⟨by simpa using h6.1,by simpa using h6.2⟩
  ·have fQ:(q,j - (i+1))∈(ops.drop (i+1)).zipIdx:=by
    rw [BJ,iZ,show i+1+(j - (i+1))=j by omega]
    exact hq
   have:=im.1 h4 _ fQ
   simp only at this
   rw [show i+1+(j - (i+1))=j by omega] at this
   exact hm j i this
 ·cases h
def NP (X:Ctx) (call:nC) (S:List SV) (ops:List Oper) (i:Nat) (s:St) (k:St->Prop):Prop:=match ops[i]? with
 | none=>False
 | some h=>match WB ops s with
  | false=>False
  | true=>iR X ops ((ep ops s.b.length).take i) { s with b:=s.b++iI (oi ops) } λs1 =>
   tW X call S h 0 s1 λs2=>match zZ ((ep ops s.b.length).drop (i+1)) s2.b&&yg ops (po ops (ep ops s.b.length) s2) ops with
    | true=>IX X (BV ops i) s2/\iR X ops ((ep ops s.b.length).drop (i+1)) s2 k
    | false=>False
section
variable {P:Program} {X:Ctx} {f f1:Fr} {s:St} {η:Nat->Value} {H:aV} {a a':Act} {w:World} {o:Oper}
theorem adM {ds:List Nat} {s:St} {t:Tmp} {l:Nat} (h:gd ⟨kA ds s.t,s.b⟩ t=some l):gd s t=some l:=by
 unfold gd at h ⊢
 rcases UO ds (t:=s.t) (d:=t) with h1|h1
 ·simp only [h1,rT] at h
  cases h
 ·simpa only [h1] using h
theorem acd (C:X.Ok P) (I:lI X) {call:nC} (CO:uJ P X call) {r:Bool} {F:Fence} (RR:RF r F) {ops:Array Oper} (O:Ordered ops.toList) {hh:Nat × Oper × Nat} (B:XB ops.toList hh.1 hh.2.1) (hs:rX ops.toList=true) {Q0:Act->World->Prop} {k k1:St->Prop}
  (hk:∀s' η' H' a' w',Den f s' η' H' a' w'->k s'->sM Q0 .normal a' w') {R:List (Nat × Oper × Nat)} (sy:∀y∈R,hh.1 < y.1) (tZ:∀y∈R,ops[y.1]?=some y.2.1)
  (kR:∀s2,k1 s2->∃Ks,j3 ops s2 R/\(∀ds,ot ops.toList Ks ⟨kA ds s2.t,s2.b⟩)/\(∀y:Nat × Oper × Nat,ops[y.1]?=some y.2.1->oU y.2.1=true->se ops.toList Ks y.2.1 y.2.2)/\(∀y∈R,se ops.toList Ks y.2.1 y.2.2)/\(∀q∈BV ops.toList hh.1,Ft X s2 q)/\iR X ops.toList (ol R) s2 k) :
  ∀(n:Nat) (A:List (Nat × Oper × Nat)) {bW:Array Bool} {Ks:Tmp->List Nat} {s:St} {η:Nat->Value} {H:aV} {a:Act} {w:World},A.length+R.length+1=n->(∀y∈A,y.1 < hh.1)->j3 ops s A->ot ops.toList Ks s->(∀y∈A,se ops.toList Ks y.2.1 y.2.2) ->
   mC ops (A++hh :: R) bW->Den f s η H a w->iR X ops.toList (ol A) s (λs1=>tW X call f.sS hh.2.1 0 s1 k1)->wpAnyIn F 0 P .any ops (sM Q0) n bW a w:=by
 intro n
 induction n with
 | zero=>intro A _ _ _ _ _ _ _ hn;omega
 | succ n ih =>
  intro A bW Ks s η H a w hn Ak W FA hL Li D h
  have tY:ops[hh.1]?=some hh.2.1:=by simpa using B.at_
  have su:∀y∈A++hh :: R,ops[y.1]?=some y.2.1:=by
   intro y hy
   rcases eE.1 hy with hy|hy
   ·exact W.get y hy
   ·rcases cx.1 hy with rfl|hy
    ·exact tY
    ·exact tZ y hy
  constructor
  ·intro hr
   cases A with
   | nil =>
    have:=mC.first O Li tY
    rw [hr] at this;cases this
   | cons x A =>
    have:=mC.first O (L:=A++hh :: R) Li (W.get x (by simp))
    rw [hr] at this;cases this
  ·intro i hi
   obtain ⟨h0,o,ho,tD⟩:=mem_ready.1 hi
   have aP:=(fe.1 ho).1
   obtain ⟨x,hx,rfl⟩:=(Li.list i aP).1 h0
   rcases eE.1 hx with PA|tX
   ·
    obtain ⟨A1,A2,rfl⟩:=Bz PA
    have ia:=W.get x (by simp)
    have sO:=mC.step (A:=A1) (B:=A2++hh :: R) (by simpa using Li) hi
    have iy:=kq.1 (kq.1 Li.inc).1
    have hA:∀p∈A1,tC ops.toList p.2.1 x.2.1:=by
     intro p o5
     have sL:=W.get p (by simp [o5])
     rcases O.apart x.1 x.2.1 p.1 p.2.1 (by simpa using ia) (by simpa using sL) (iy.2.2 p o5 x (by simp)) with hF|j6
     ·exact absurd rfl (Li.uW hi hF (fe.1 sL).1 p (by simp [o5]))
     ·exact Hq j6
    have h2:=ET C x A2 A1 ⟨η,H,a,w,D⟩ FA hL W hA h
    obtain ⟨s1,h3,h4⟩:=qM.1 h2
    have kI:(A1++x :: A2).Perm (x :: (A1++A2)):=Ea
    have fQ:x.2.1∈ops.toList:=Array.mem_toList_iff.2 (uy ia)
    have F9:=FA.out fQ (hL x (by simp)) (λf S h=>(C.sp f S h).lr) h3
    have W':=(W.perm kI).tail h3
    have kH:=Ei C D ia (λha=>W.un x (by simp) ha) (W.store x (by simp)) h3 (Q:=sM Q0) (K:=λa' w'=>∃η' H',Den f s1 η' H' a' w') λη' H' a' w' D'=>⟨η',H',D'⟩
    unfold wpOp at kH
    unfold wpOpIn
    rw [ia] at kH ⊢
    simp only at kH ⊢
    have fin:∀a' w',(∃η' H',Den f s1 η' H' a' w')->wpAnyIn F 0 P .any ops (sM Q0) n (bW.setIfInBounds x.1 true) a' w':=by
     intro a' w' ⟨η',H',D'⟩
     exact ih (A1++A2) (by simp at hn ⊢;omega) (λy hy=>Ak y (kI.mem_iff.2 (by simp only [cx];exact .inr hy))) W' F9 (λy hy=>hL y (kI.mem_iff.2 (by simp only [cx];exact .inr hy))) (by simpa using sO) D' h4
    by_cases hw:Region.wanted x.2.1 (yielded ops a.tmps)=true
    ·rw [if_pos hw] at kH ⊢
     rcases kH with kH|kH
     ·have fB:tw x.2.1.op=false:=by
       have:=im.1 hs x.2.1 fQ
       cases db:qa x.2.1.op
       ·rw [db] at this;simpa using this
       ·cases ff:x.2.1.op<;>rw [ff] at db<;>first|rfl|cases db
      exact Oper.wpIn_mono (λa' w' hq=>fin a' w' hq) (wj RR fB kH)
     ·exact absurd kH.2 EI
    ·rw [if_neg hw] at kH ⊢
     exact ⟨λg _=>RR.fn g,fin _ _ kH⟩
   ·rcases cx.1 tX with rfl|tX
    ·
     have uS:∀y∈A,oU y.2.1=true/\y.2.1∈BV ops.toList x.1/\∀d,y.2.1.dst=some d->d∉jD x.2.1.op/\d∉jD y.2.1.op/\∀j' q,j' < y.1->ops.toList[j']?=some q->d∉jD q.op/\q.dst≠some d:=by
      intro y hy
      rcases B.uW y.1 y.2.1 (Ak y hy) (by simpa using W.get y hy) with hF|h
      ·exact absurd rfl (Li.uW hi hF (fe.1 (W.get y hy)).1 y (by simp [hy]))
      ·exact h
     obtain ⟨s1,a1,η1,H1,D1,h1,aho⟩:=T7 C A (λy hy=>(uS y hy).1) D h
     obtain ⟨c,g,Jn,PF⟩:=B.call
     have Pz:fl x.2.1.op=false:=by
      rw [Jn]
      cases c
      simp only at PF
      subst PF
      rfl
     have fv:qa x.2.1.op=false:=by rw [Jn];rfl
     have fB:tw x.2.1.op=false:=by rw [Jn];rfl
     have sO:=mC.step (A:=A) (B:=R) Li hi
     unfold wpOpIn
     rw [tY]
     simp only
     rw [if_pos (by simp [Region.wanted,B.guard])]
     refine acK RR aho Jn PF (λt ht hm=>?_) (K:=λa' w'=>∃s2 η' H',Den f s2 η' H' a' w'/\k1 s2) (λe a w he h=>by cases e<;>first|exact absurd rfl he|exact h) EI (λa2 b2 w' gx hb=>?_)
      (BG C I CO RR (s:=s1) D1 (l:=0) (by intro ha;rw [Pz] at ha;cases ha) (by intro ha;rw [fv] at ha;cases ha) fB h1 (Q:=sM Q0) (K:=λa' w'=>∃s2 η' H',Den f s2 η' H' a' w'/\k1 s2) λs' η' H' a' w' D' fL=>⟨s',η',H',D',fL⟩)
     ·obtain ⟨y,hy,AP⟩:=EB.1 hm
      exact ((uS y hy).2.2 t AP).1 ht
     obtain ⟨s2,η2,H2,D2,qs⟩:=hb
     obtain ⟨Ks2,W2,PC,hL1,PD,db,h2⟩:=kR s2 qs
     have D3:=D2.but gx
     have WL:=(kq.1 Li.inc).1
     have JS:=Sm (X:=X) (ops:=ops.toList) (k:=λs3=>iR X ops.toList (ol R) s3 k) (s:=s2) A (λy hy=>⟨(uS y hy).1,db _ (uS y hy).2.1⟩) (λy hy d hd=>((uS y hy).2.2 d hd).2.1)
      (WL.imp_of_mem λ{p q} hp hq aP d hd=>((uS q hq).2.2 d hd).2.2 p.1 p.2.1 aP (by simpa using W.get p hp)) h2
     have aiM:iR X ops.toList (ol (A++R)) ⟨kA (oz A) s2.t,s2.b⟩ k:=by
      have:=RX (ol A) JS
      unfold ol at this ⊢
      rwa [vS]
     refine UM RR hs EI _ _ _ _ ?_
     refine UJ C O hk n (A++R) (by simp at hn ⊢;omega) ⟨λy hy=>?_,λy hy=>?_,λy hy ha=>?_,?_⟩ sO.inc sO.list sO.all sO.down (PC _) (λy hy=>?_) D3 aiM
     ·rcases eE.1 hy with hy|hy
      ·exact W.get y hy
      ·exact tZ y hy
     ·rcases eE.1 hy with hy|hy
      ·exact W.store y hy
      ·exact W2.store y hy
     ·rcases eE.1 hy with hy|hy
      ·rw [Ht (uS y hy).1] at ha;cases ha
      ·exact W2.un y hy ha
     ·refine kq.2 ⟨WL.imp_of_mem λ{p q} hp hq _ ha _=>?_,W2.gW,λp hp q hq ha _=>?_⟩
      ·rw [Ht (uS p hp).1] at ha;cases ha
      ·rw [Ht (uS p hp).1] at ha;cases ha
     ·rcases eE.1 hy with hy|hy
      ·exact hL1 y (W.get y hy) (uS y hy).1
      ·exact PD y hy
    ·
     have hF:=B.back x.1 x.2.1 (sy x tX) (by simpa using tZ x tX)
     exact absurd rfl (Li.uW hi hF (fe.1 tY).1 hh (by simp))
theorem abN (C:X.Ok P) (I:lI X) {call:nC} (CO:uJ P X call) {r:Bool} {F:Fence} (RR:RF r F) {id:Nat} {ops:Array Oper} (hs:rX ops.toList=true) (hd:EG ops.toList=true) {i:Nat} (hb:IA ops.toList i=true) {Q:Exit->Act->World->Prop} {k:St->Prop}
  (hk:∀s' η' H' a' w',Den f s' η' H' a' w'->k s'->Q .normal a' w') (D:Den f s η H a w) (h:NP X call f.sS ops.toList i s k):(Code.region id ops true).wpIn F 0 P Q a w:=by
 refine wpIn_mono (Q:=sM (Q .normal)) ?_ (λe a' w' h=>by cases e<;>first|exact h|exact h.elim)
 have hk:∀s' η' H' a' w',Den f s' η' H' a' w'->k s'->sM (Q .normal) .normal a' w':=hk
 have O:=RA hd
 obtain ⟨ff,B⟩:=abM hb
 unfold NP at h
 rw [B.at_] at h
 simp only at h
 split at h
 ·exact h.elim
 rename_i Cy
 let n:=s.b.length
 let s0:St:={ s with b:=s.b++iI (oi ops.toList) }
 have D1:=D.ext (oi ops.toList)
 have D2:Den f s0 η H a { w with drawn:=w.drawn+1 }:=D1.grown (Hh w none)
 have W:j3 ops s0 (items ops.toList n):=Lo hs s
 have hlen:(items ops.toList n).length=ops.size:=by
  have:=congrArg List.length (rP ops.toList n)
  simpa using this
 have Al:i < ops.size:=by
  have:=(bh.1 B.at_).1
  simpa using this
 have fx:items ops.toList n=(items ops.toList n).take i++(items ops.toList n)[i]'(by rw [hlen];exact Al) :: (items ops.toList n).drop (i+1):=by
  rw [SM,List.take_append_drop]
 have Aj:∀(j:Nat) (x:Nat × Oper × Nat),(items ops.toList n)[j]?=some x->x.1=j/\ops[j]?=some x.2.1/\(ep ops.toList n)[j]?=some x.2:=by
  intro j x hx
  have h1:=W.get x (cN hx)
  have h2:((items ops.toList n).map (·.1))[j]?=some x.1:=by rw [k7,hx];rfl
  rw [rP,LQ (by
   have:=(bh.1 hx).1
   rw [hlen] at this;simpa using this)] at h2
  simp at h2
  have h3:(ol (items ops.toList n))[j]?=some x.2:=by unfold ol;rw [k7,hx];rfl
  rw [vX] at h3
  exact ⟨h2.symm,by rw [h2];exact h1,h3⟩
 have Ga:(items ops.toList n)[i]?=some ((items ops.toList n)[i]'(by rw [hlen];exact Al)):=dE _
 generalize (items ops.toList n)[i]'(by rw [hlen];exact Al)=hh at fx Ga
 obtain ⟨C4,J7,_⟩:=Aj i hh Ga
 have Jm:hh.2.1=ff:=by
  have:ops[i]?=some ff:=by simpa using B.at_
  rw [J7] at this;simpa using this
 have inc:(items ops.toList n).Pairwise (λx y=>x.1 < y.1):=by
  have h2:((items ops.toList n).map (·.1)).Pairwise (· < ·):=by rw [rP];exact BN
  rw [pY] at h2
  exact h2
 have Fs:=inc
 rw [fx] at Fs
 have Cz:=kq.1 Fs
 have PE:ol ((items ops.toList n).take i)=(ep ops.toList n).take i:=by unfold ol;rw [List.map_take];show (ol (items ops.toList n)).take i=_;rw [vX]
 have Gb:ol ((items ops.toList n).drop (i+1))=(ep ops.toList n).drop (i+1):=by unfold ol;rw [List.map_drop];show (ol (items ops.toList n)).drop (i+1)=_;rw [vX]
 have FA:ot ops.toList (po ops.toList (ep ops.toList n) s) s0 :=
  ⟨λt A hA l hl=>by
   have hl:gd s t=some l:=hl
   exact DQ hA (by simp [zO,hl]),HQ,EH Cy⟩
 have sy:∀y∈(items ops.toList n).drop (i+1),hh.1 < y.1:=λy hy=>(eX.1 Cz.2.1).1 y hy
 refine wpIn_region_any C.mixed ?_
 refine acd C I CO RR O (by rw [C4,Jm];exact B) hs hk (k1:=λs2=>match zZ ((ep ops.toList s.b.length).drop (i+1)) s2.b&&yg ops.toList (po ops.toList (ep ops.toList s.b.length) s2) ops.toList with
    | true=>IX X (BV ops.toList i) s2/\iR X ops.toList ((ep ops.toList s.b.length).drop (i+1)) s2 k
    | false=>False) (R:=(items ops.toList n).drop (i+1)) sy
  (λy hy=>W.get y (uA hy)) (λs2 qs=>?_) ops.size ((items ops.toList n).take i) ?_ (λy hy=>Cz.2.2 y hy hh (by simp)) (W.sub (List.take_sublist _ _)) FA
  (λy hy=>HR s y (vQ hy)) ⟨?_,?_,?_,?_⟩ D2 ?_
 ·split at qs
  ·rename_i hq
   simp only [cu] at hq
   refine ⟨po ops.toList (ep ops.toList n) s2,⟨λx hx=>W.get x (uA hx),λx hx=>W.store x (uA hx),λx hx ha=>?_,W.gW.sublist (List.drop_sublist _ _)⟩,
    λds=>⟨λt A hA l hl=>DQ hA (by simp [zO,adM hl]),HQ,EH hq.2⟩,λy hy hl t A _ _ ha _=>(by rw [Ht hl] at ha;cases ha),λy hy=>HR s2 y (uA hy),
    λq hq=>Td qs.1 q (by rw [C4] at hq;exact hq),by rw [Gb];exact qs.2⟩
   refine Ml hq.1 x.2 ?_ ha
   rw [<-Gb]
   exact D8 hx
  ·exact qs.elim
 ·simp only [jv,vR,hlen];omega
 ·rw [<-fx];exact inc
 ·intro j hj
  rw [<-fx]
  have:(Array.replicate ops.size false).getD j true=false:=by simp [hj]
  simp only [this,true_iff]
  have hm:j∈(items ops.toList n).map (·.1):=by rw [rP];simpa using hj
  obtain ⟨x,hx,rfl⟩:=jW.1 hm
  exact ⟨x,hx,rfl⟩
 ·intro j
  by_cases hj:j < ops.size
  ·right;left;simp [hj]
  ·right;right;omega
 ·intro j o e ho hl
  exfalso
  by_cases hj:j < ops.size
  ·simp [hj] at hl
  ·simp [hj] at hl
 ·rw [PE,Jm];exact h
end
end
def z6 (j:Nat):List Nat->Bool
 | []=>false
 | x :: r=>Nat.beq j x||z6 j r
def yq (L:List Nat) (i:Nat) (o:Oper):Bool:=!z6 i L&&o.after.toList.all λe=>!Region.binds .any e||z6 e.on L
def wy (L:List Nat):List Oper->Nat->List Nat
 | [],_=>[]
 | o :: r,i=>match yq L i o with
  | true=>i :: wy L r (i+1)
  | false=>wy L r (i+1)
def Nn (f:Nat->Prop):List Nat->Prop
 | []=>True
 | [i]=>f i
 | i :: r=>f i/\Nn f r
def Am (
     X:Ctx) (call:nC) (S:List SV) (ops:List Oper):Nat->List Nat->St->(St->Prop)->Prop
 | 0,L,s,k=>match wy L ops 0 with
  | []=>k s
  | _=>False
 | n+1,L,s,k=>match wy L ops 0 with
  | []=>k s
  | rs=>Nn (λi=>match ops[i]? with
   | none=>False
   | some o=>Iz ops o s
    (λs=>match fl o.op with
     | true=>tW X call S o s.b.length { s with b:=s.b++[.un] } λs'=>Am X call S ops n (i :: L) s' k
     | false=>tW X call S o 0 s λs'=>Am X call S ops n (i :: L) s' k)
    (λs=>qe o s λs'=>Am X call S ops n (i :: L) s' k)) rs
theorem Ej {j:Nat}:∀{l:List Nat},z6 j l=true↔j∈l
 | []=>by simp [z6]
 | x :: r=>by simp [z6,zo,Ej]
theorem Sn {f:Nat->Prop}:∀{l:List Nat},Nn f l->∀i∈l,f i
 | [],_,i,h=>by cases h
 | [x],h,i,hi=>by rw [qR] at hi;subst hi;exact h
 | x :: y :: r,h,i,hi=>by
  rcases cx.1 hi with rfl|hi
  ·exact h.1
  ·exact Sn h.2 i hi
theorem MH {L:List Nat}:∀{ops:List Oper} {n i:Nat},i∈wy L ops n↔n<=i/\∃o,ops[i - n]?=some o/\yq L i o=true
 | [],n,i=>by simp [wy]
 | o :: r,n,i=>by
  have ih:=@MH L r (n+1) i
  have e:(n<=i/\∃p,(o :: r)[i - n]?=some p/\yq L i p=true)↔(i=n/\yq L n o=true)\/(n+1<=i/\∃p,r[i - (n+1)]?=some p/\yq L i p=true):=by
   constructor
   ·rintro ⟨h,p,hp,hb⟩
    rcases Nat.eq_or_lt_of_le h with rfl|h
    ·rw [xx] at hp;cases hp;exact .inl ⟨rfl,hb⟩
    ·rw [show i - n=(i - (n+1))+1 by omega] at hp
     exact .inr ⟨h,p,hp,hb⟩
   ·rintro (⟨rfl,hb⟩|⟨h,p,hp,hb⟩)
    ·exact ⟨fT _,o,by rw [xx];rfl,hb⟩
    ·exact ⟨by omega,p,by rw [show i - n=(i - (n+1))+1 by omega];exact hp,hb⟩
  rw [e,<-ih]
  show i∈(match yq L n o with|true=>n :: wy L r (n+1)|false=>wy L r (n+1))↔_
  split
  ·rename_i hb
   rw [cx]
   constructor
   ·rintro (rfl|h)
    ·exact .inl ⟨rfl,hb⟩
    ·exact .inr h
   ·rintro (⟨rfl,-⟩|h)
    ·exact .inl rfl
    ·exact .inr h
  ·rename_i hb
   constructor
   ·exact .inr
   ·rintro (⟨-,h⟩|h)
    ·rw [hb] at h;cases h
    ·exact h
section
variable {P:Program} {X:Ctx} {f:Fr}
structure yu (ops:Array Oper) (L:List Nat) (bW:Array Bool):Prop where
 size:bW.size=ops.size
 at_:∀j,j < ops.size->(bW.getD j true=true↔j∈L)
theorem yu.YZ {ops:Array Oper} {L:List Nat} {bW:Array Bool} (h:yu ops L bW) (hb:∀j∈L,j < ops.size) (j:Nat):bW.getD j false=true↔j∈L:=by
 by_cases hj:j < ops.size
 ·rw [<-h.at_ j hj]
  have:j < bW.size:=by rw [h.size];exact hj
  simp [this]
 ·have h1:¬j < bW.size:=by rw [h.size];exact hj
  constructor
  ·intro e;simp [h1] at e
  ·intro e;exact absurd (hb j e) hj
theorem yu.ready {ops:Array Oper} {L:List Nat} {bW:Array Bool} (h:yu ops L bW) (hb:∀j∈L,j < ops.size) (i:Nat):i∈Region.ready .any ops bW↔i∈wy L ops.toList 0:=by
 rw [mem_ready,MH]
 constructor
 ·rintro ⟨h0,o,ho,e6⟩
  have aP:i < ops.size:=(fe.1 ho).1
  refine ⟨cP _,o,by rw [Ef];simpa using ho,?_⟩
  simp only [yq,cu,nY,im,oO]
  refine ⟨?_,λe he=>?_⟩
  ·cases hq:z6 i L
   ·rfl
   ·have:=(h.at_ i aP).2 (Ej.1 hq);rw [h0] at this;cases this
  ·cases PG:Region.binds .any e
   ·exact .inl rfl
   ·exact .inr (Ej.2 ((h.YZ hb e.on).1 (e6 e (by simpa using he) PG)))
 ·rintro ⟨-,o,ho,hr⟩
  rw [Ef] at ho
  have ho:ops[i]?=some o:=by simpa using ho
  have aP:i < ops.size:=(fe.1 ho).1
  simp only [yq,cu,nY,im,oO] at hr
  refine ⟨?_,o,ho,λe he PG=>?_⟩
  ·cases hq:bW.getD i true
   ·rfl
   ·have:=Ej.2 ((h.at_ i aP).1 hq);rw [hr.1] at this;cases this
  ·rcases hr.2 e (by simpa using he) with h1|h1
   ·rw [PG] at h1;cases h1
   ·exact (h.YZ hb e.on).2 (Ej.1 h1)
theorem yu.set {ops:Array Oper} {L:List Nat} {bW:Array Bool} (h:yu ops L bW) {i:Nat} (hi:i < ops.size):yu ops (i :: L) (bW.setIfInBounds i true):=by
 refine ⟨by simp [h.size],λj hj=>?_⟩
 have e8:j < bW.size:=by rw [h.size];exact hj
 by_cases e:i=j
 ·subst e;simp [e8]
 ·rw [getD_set_ne true e,h.at_ j hj,cx]
  constructor
  ·exact .inr
  ·rintro (rfl|h)
   ·exact absurd rfl e
   ·exact h
theorem Hu (C:X.Ok P) (I:lI X) {call:nC} (CO:uJ P X call) {r0:Bool} {F:Fence} (R:RF r0 F) {ops:Array Oper} (db:rX ops.toList=true)
  {Q:Exit->Act->World->Prop} {k:St->Prop} (hk:∀s' η' H' a' w',Den f s' η' H' a' w'->k s'->Q .normal a' w') :
  ∀(n:Nat) (L:List Nat) (bW:Array Bool) {s:St} {η:Nat->Value} {H:aV} {a:Act} {w:World},yu ops L bW->(∀j∈L,j < ops.size)->Den f s η H a w->Am X call f.sS ops.toList n L s k->wpAnyIn F 0 P .any ops Q n bW a w
 | 0,L,bW,s,η,H,a,w,A,hb,D,h=>by
  unfold Am at h
  split at h
  ·rename_i hr
   refine ⟨Eo.2 λi hi=>?_,hk _ _ _ _ _ D h⟩
   rw [A.ready hb,hr] at hi;cases hi
  ·exact h.elim
 | n+1,L,bW,s,η,H,a,w,A,hb,D,h=>by
  unfold Am at h
  refine ⟨λh0=>?_,λi hi=>?_⟩
  ·split at h
   ·exact hk _ _ _ _ _ D h
   ·rename_i rs bL
    exfalso
    apply bL
    refine Eo.2 λi hi=>?_
    rw [<-A.ready hb,h0] at hi;cases hi
  ·have j6:=(A.ready hb i).1 hi
   split at h
   ·rename_i hr;rw [hr] at j6;cases j6
   have h:=Sn h i j6
   obtain ⟨-,o,ho,-⟩:=MH.1 j6
   rw [Ef] at ho
   rw [ho] at h
   have hi:ops[i]?=some o:=by simpa using ho
   have aP:i < ops.size:=(fe.1 hi).1
   have A':=A.set aP
   have gF:∀j∈i :: L,j < ops.size:=λj hj=>by
    rcases cx.1 hj with rfl|hj
    ·exact aP
    ·exact hb j hj
   have e6:=im.1 db o (by simpa using uy hi)
   have wT:BU o:=by
    intro he
    rw [he] at e6
    simpa using e6
   have fB:tw o.op=false:=by
    cases db:qa o.op
    ·rw [db] at e6;simpa using e6
    ·cases ff:o.op<;>rw [ff] at db<;>first|rfl|cases db
   unfold wpOpIn
   rw [hi]
   simp only at h ⊢
   obtain ⟨s0,D0,-,h|h⟩:=Ta D (ops:=ops) h
   ·rw [if_pos h.1]
    have h2:=h.2
    split at h2
    ·refine BG C I CO R (s:={ s0 with b:=s0.b++[.un] }) (D0.ext 1) (λ_=>by simp) wT fB h2 λs' η' H' a' w' D' fL=>?_
     exact Hu C I CO R db hk n (i :: L) _ A' gF D' fL
    ·rename_i nF
     refine BG C I CO R D0 (λha=>by rw [nF] at ha;cases ha) wT fB h2 λs' η' H' a' w' D' fL=>?_
     exact Hu C I CO R db hk n (i :: L) _ A' gF D' fL
   ·rw [if_neg (by rw [h.1];simp)]
    have h2:=h.2
    unfold qe at h2
    exact ⟨λg _=>R.fn g,Hu C I CO R db hk n (i :: L) _ A' gF (D0.put o.dst (x:=.ca []) (by simp only [rel];exact ⟨[],rfl,by simp [aK]⟩)) h2⟩
end
end Go.Vc
