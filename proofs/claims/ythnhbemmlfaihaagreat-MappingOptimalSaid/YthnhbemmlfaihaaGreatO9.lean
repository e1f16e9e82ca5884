import Derived.Test.YthnhbemmlfaihaaGreatO8
set_option linter.unusedVariables false
set_option linter.unusedSimpArgs false
set_option maxRecDepth 10000
set_option maxHeartbeats 64000000
namespace Go.Vc
open Go
def Still {α:Type} (P:Program) (m:Sem α):Prop:=∀w x w',m.run P w=.ok x w'->w'=w
section still
variable {P:Program}
theorem vn {α:Type} (x:α):Still P (pure x:Sem α):=by
 intro w y w' h
 simp only [Sem.run_pure,Result.ok.injEq] at h
 exact h.2.symm
theorem sT {α β:Type} {m:Sem α} {f:α->Sem β} (h:Still P m) (h':∀x,Still P (f x)):Still P (m >>= f):=by
 intro w x w' e
 rw [Sem.run_bind] at e
 cases hm:m.run P w with
 | ok y w1 =>
  rw [hm] at e
  simp only [Result.andThen] at e
  obtain rfl:=h _ _ _ hm
  exact h' _ _ _ _ e
 | halt x w1=>rw [hm] at e;simp [Result.andThen] at e
theorem DW {α:Type} (m:String):Still P (stuck m:Sem α):=by
 intro w y w' h;simp at h
theorem V9 {α:Type} (m:Unsupported):Still P (unsupported m:Sem α):=by
 intro w y w' h;simp at h
theorem Kn:Still P program:=by
 intro w y w' h;simp at h;exact h.2.symm
theorem Wa (r:Nat):Still P (shape r):=by
 intro w y w' h;simp at h;exact h.2.symm
theorem Wt (a:Addr) (m:Mode):Still P (load a m):=by
 intro w y w' h
 rw [run_load] at h
 split at h
 ·simp at h;exact h.2.symm
 ·split at h
  ·simp at h;exact h.2.symm
  ·simp at h
theorem ahi (t:TypeId):Still P (typeInfo t):=by
 unfold typeInfo
 refine sT Kn λp=>?_
 split
 ·exact vn _
 ·exact DW _
theorem Xj (t:TypeId):Still P (underlying t):=by
 unfold underlying
 refine sT Kn λp=>?_
 split
 ·exact vn _
 ·exact DW _
theorem agV (t:TypeId):Still P (isAgg t):=by
 unfold isAgg
 refine sT (Xj t) λp=>?_
 split<;>exact vn _
theorem VR (t:TypeId):Still P (sizeOf t):=by
 unfold sizeOf
 exact sT (ahi t) λp=>vn _
theorem Wb (a:Addr):∀(n i:Nat) (acc:Array Value),Still P (loadCellsFrom a i n acc)
 | 0,i,acc=>vn _
 | n+1,i,acc=>sT (Wt _ _) λv=>Wb a n (i+1) _
theorem agu (t:TypeId) (a:Addr):Still P (loadVar t a):=by
 unfold loadVar
 refine sT (agV t) λp=>?_
 split
 ·refine sT (VR t) λn=>sT ?_ λx=>vn _
  exact Wb a n 0 #[]
 ·exact Wt a _
theorem Wu (v:Value):Still P (Instr.sureAddr v):=by
 unfold Instr.sureAddr
 split
 ·exact vn _
 ·exact DW _
theorem agC (t:TypeId) (v:Value):Still P (Instr.loadAt t v):=by
 unfold Instr.loadAt
 exact sT (Wu v) λa=>agu t a
theorem agD (r:Nat):Still P (getObj r):=by
 intro w y w' h
 simp only [getObj,Sem.run] at h
 repeat' split at h
 all_goals first|(simp at h;exact h.2.symm)|simp at h
theorem ahj (a:Addr):Still P (noView a):=by
 unfold noView viewAt
 (repeat' first|exact agD _|exact vn _|exact DW _|exact V9 _|exact Wa _|exact Kn|refine sT ?_ λ_=>?_|split)
theorem agE (a:Addr):Still P (byteOf a):=by
 unfold byteOf
 (repeat' first|exact vn _|exact DW _|exact V9 _|exact Wa _|exact Kn|exact ahj _|refine sT ?_ λ_=>?_|split|dsimp only)
theorem agW (a:Addr) (f:Field):Still P (fieldPlace a f):=by
 unfold fieldPlace partAt
 (repeat' first|exact vn _|exact VR _|exact agE _|refine sT ?_ λ_=>?_|split)
theorem agv (t:TypeId) (v:Value) (j:Nat):Still P (Instr.fieldAt t v j):=by
 unfold Instr.fieldAt
 (repeat' first|exact vn _|exact DW _|exact Xj _|exact Wu _|exact agW _ _|refine sT ?_ λ_=>?_|split)
end still
def qx (o:Oper):Bool:=o.guard.isNone&&(o.dst.isSome&&match o.op with
 | .move _|.nilCheck _|.fieldAddr ..|.load ..=>true
 | _=>false)
section
variable {P:Program} {X:Ctx} {f f1:Fr} {s:St} {η:Nat->Value} {H:bu} {a a':Act} {w:World} {o:Oper}
theorem aiW (C:X.Ok P) (D:Den f s η H a w) (hl:qx o=true) {ops:List Oper} {l:Nat} {s1:St} (h:Out X ops o l s s1):∃u η' H',Den f s1 η' H' (a.put o.dst u) w:=by
 unfold qx at hl
 simp only [cG,Pe] at hl
 obtain ⟨hg,hd,eQ⟩:=hl
 unfold Out vN at h
 rw [hg] at h
 obtain ⟨x,u,ho,e⟩:=h
 have hk:=(eC.Mg (et X s l o.op) (λx' u'=>x'=x/\u'=u)).2 ⟨x,u,ho,rfl,rfl⟩
 have hna:fZ o.op=true->s.b[l]?=some .un:=by
  intro ha
  cases rz:o.op<;>rw [rz] at eQ ha<;>first|(cases eQ;done)|(simp [fZ] at ha;done)
 have I7:rT o.op=true->o.dst=none:=by
  intro ha
  cases rz:o.op<;>rw [rz] at eQ ha<;>first|(cases eQ;done)|(simp [rT] at ha;done)
 obtain ⟨x',u',⟨rfl,rfl⟩,y3⟩:=PM (R:=λx' u'=>x'=x/\u'=u) C D (l:=l) hna I7 hk
 have hw:=y3 (λa' w'=>∃η' H',Den f s1 η' H' a' w') (λ_ _ _=>False) (λη' H' w' v D'=>⟨η',H',by rw [e];exact D'⟩)
 have alm:∀z w',(execOp a.eval o).run P w=.ok z w'->w'=w/\∃v,z=.value v:=by
  intro z w' hz
  have fin:∀m:Sem Value,Still P m->(do pure (.value (<-m)):Sem Next).run P w=.ok z w'->w'=w/\∃v,z=.value v:=by
   intro m hm hz
   rw [Sem.run_bind] at hz
   cases hr:m.run P w with
   | ok y w1 =>
    rw [hr] at hz
    simp only [Result.andThen,Sem.run_pure,Result.ok.injEq] at hz
    exact ⟨by rw [<-hz.2];exact hm _ _ _ hr,y,hz.1.symm⟩
   | halt y w1=>rw [hr] at hz;simp [Result.andThen] at hz
  cases rz:o.op<;>rw [rz] at eQ<;>try (cases eQ;done)
  case move x =>
   simp only [execOp,rz,Sem.run_pure,Result.ok.injEq] at hz
   exact ⟨hz.2.symm,_,hz.1.symm⟩
  case load t x =>
   simp only [execOp,rz] at hz
   exact fin _ (agC _ _) hz
  case fieldAddr t x j =>
   simp only [execOp,rz] at hz
   exact fin _ (agv _ _ _) hz
  case nilCheck x =>
   rw [rz] at hk
   simp only [et] at hk
   have hx:=D.ev x
   have pt:(∃ad,a.eval x=.pointer (some ad))\/∃g fs cs,a.eval x=.func (.func g) fs cs:=by
    split at hk<;>first|exact hk.elim|skip
    ·rename_i l off e
     rw [e] at hx
     left
     simp only [rel] at hx
     split at hx
     ·exact hx.elim
     ·exact hx
     ·obtain ⟨bl,_,h⟩:=hx;exact ⟨_,h⟩
    ·rename_i cs off e
     rw [e] at hx
     left
     simp only [rel] at hx
     obtain ⟨ad,h,_⟩:=hx;exact ⟨_,h⟩
    ·rename_i g fs cs e
     rw [e] at hx
     right
     simp only [rel] at hx
     obtain ⟨us,vs,h,_⟩:=hx
     exact ⟨_,_,_,h⟩
   rcases pt with ⟨ad,hp⟩|⟨g,fs,cs,hp⟩
   ·simp only [execOp,rz,hp,Sem.run_pure,Result.ok.injEq] at hz
    exact ⟨hz.2.symm,_,hz.1.symm⟩
   ·simp only [execOp,rz,hp,Sem.run_pure,Result.ok.injEq] at hz
    exact ⟨hz.2.symm,_,hz.1.symm⟩
 unfold Oper.wp at hw
 cases hz:(execOp a.eval o).run P w with
 | ok z w' =>
  obtain ⟨rfl,v,rfl⟩:=alm z w' hz
  rw [hz] at hw
  obtain ⟨η',H',D'⟩:=hw
  exact ⟨v,η',H',D'⟩
 | halt z w'=>rw [hz] at hw;cases z<;>simp only [Oper.upon] at hw
theorem KC (hl:qx o=true):fZ o.op=false:=by
 unfold qx at hl
 simp only [cG] at hl
 obtain ⟨_,_,eQ⟩:=hl
 cases rz:o.op<;>rw [rz] at eQ<;>first|(cases eQ;done)|rfl
theorem aiX (hl:qx o=true) (s:St) (l:Nat):et X s l o.op=et X s 0 o.op:=by
 unfold qx at hl
 simp only [cG] at hl
 obtain ⟨_,_,eQ⟩:=hl
 cases rz:o.op<;>rw [rz] at eQ<;>first|(cases eQ;done)|rfl
theorem Yf (hl:qx o=true):∃d,o.dst=some d:=by
 unfold qx at hl
 simp only [cG] at hl
 exact sX.1 hl.2.1
theorem ahk (hl:qx o=true):o.guard=none:=by
 unfold qx at hl
 simp only [cG,Pe] at hl
 exact hl.1
structure wQ (ds:List Tmp) (a b:Act):Prop where
 d:a.defers=b.defers
 z:a.tmps.size=b.tmps.size
 t:∀d,d∉ds->a.tmps[d]?=b.tmps[d]?
theorem wQ.put {ds:List Tmp} {a b:Act} (h:wQ ds a b) (dst:Option Tmp) (v:Value):wQ ds (a.put dst v) (b.put dst v):=by
 cases dst with
 | none=>exact h
 | some d =>
  refine ⟨h.d,by simp [Act.put,h.z],λd' jC=>?_⟩
  simp only [Act.put,Array.getElem?_setIfInBounds]
  rw [h.t d' jC,h.z]
theorem wQ.ev {ds:List Tmp} {a b:Act} (h:wQ ds a b) {x:Operand} (hx:∀t,x=.tmp t->t∉ds):a.eval x=b.eval x:=by
 cases x with
 | tmp t =>
  have:=h.t t (hx t rfl)
  simp only [Act.eval,Hj,this]
 | _=>rfl
theorem ahV {r:Bool} {F:Fence} (R:RF r F) {ds:List Tmp} {a b:Act} (hs:wQ ds a b) {c:Call} {g:FuncId} (ho:o.op=.call c) (hc:c.callee=.value (.func g)) (hd:∀t∈kJ o.op,t∉ds)
  {K K':Act->World->Prop} {Q:Exit->Act->World->Prop} (hQ:∀e a w,e≠.normal->¬Q e a w) (hQ':¬LetsOut Q) (hK:∀a1 b1 w',wQ ds a1 b1->K b1 w'->K' a1 w') (h:o.wpIn F 0 P b w K Q):o.wpIn F 0 P a w K' Q:=by
 have FW:c.args.map a.eval=c.args.map b.eval:=Array.map_congr_left λx hx=>hs.ev λt ht=>hd t (by
  subst ht
  rw [ho]
  exact Eb.2 ⟨.tmp t,by simpa [Op.operands] using Ku (Array.mem_toList_iff.2 hx),rfl⟩)
 have iy:resolve a.eval c o.type=resolve b.eval c o.type:=by
  unfold resolve
  rw [hc,FW]
  rfl
 have hex:o.semAt F.round a.eval=o.semAt F.round b.eval:=by
  rw [Oper.semAt_eq _ _ _ (λc' e=>by rw [ho] at e;cases e),Oper.semAt_eq _ _ _ (λc' e=>by rw [ho] at e;cases e)]
  unfold execOp
  rw [ho]
  simp only [iy]
 refine ⟨λf _=>R.fn f,?_⟩
 have h2:=h.2
 rw [hex]
 generalize (o.semAt F.round b.eval).run P w=z at *
 cases z with
 | ok x w' =>
  cases x<;>simp only [Oper.uponIn] at h2 ⊢
  case value v=>exact hK _ _ _ (hs.put _ _) h2
  case skip=>exact hK _ _ _ (hs.put _ _) h2
  case defer dd=>exact hK _ _ _ (wQ.put (a:={ a with defers:=dd :: a.defers }) (b:={ b with defers:=dd :: b.defers }) ⟨by simp [hs.d],hs.z,hs.t⟩ _ _) h2
  case enter=>exact ⟨h2.1,CallsIn.mono h2.2 λe Jd he=>by cases e<;>first|exact hK _ _ _ (hs.put _ _) he|exact absurd he (hQ _ _ _ (by simp))|exact he⟩
  case row=>exact ⟨h2.1,RowsIn.mono h2.2 λv Jd he=>hK _ _ _ (hs.put _ _) he⟩
  case round=>exact ⟨h2.1,RoundIn.mono h2.2 λe Jd he=>by cases e<;>first|exact hK _ _ _ (hs.put _ _) he|exact absurd he (hQ _ _ _ (by simp))|exact he⟩
  all_goals exact h2
 | halt x w'=>cases x<;>simp only [Oper.uponIn] at h2 ⊢<;>first|exact h2|exact absurd h2 (hQ _ _ _ (by simp))
theorem Yg {q:Nat->Live}:∀{t:List SV} {vs nm:List Value},aP η q H t vs->vs.length=nm.length->(∀d:Nat,t[d]?=some .any\/vs[d]?=nm[d]?)->aP η q H t nm
 | [],vs,nm,h,hl,_=>by
  simp only [aP] at h ⊢
  subst h
  cases nm with
  | nil=>rfl
  | cons=>simp at hl
 | x :: r,vs,nm,h,hl,hd=>by
  simp only [aP] at h ⊢
  obtain ⟨v,vs1,rfl,h1,h2⟩:=h
  cases nm with
  | nil=>simp at hl
  | cons v' aoN =>
   refine ⟨v',aoN,rfl,?_,Yg h2 (by simpa using hl) λd=>by simpa using hd (d+1)⟩
   rcases hd 0 with h|h
   ·simp at h;subst h;simp only [rel]
   ·simp at h;subst h;exact h1
theorem Y9:∀(ds:List Nat) {t:List SV} {d:Nat},d∉ds->(lF ds t)[d]?=t[d]?
 | [],_,_,_=>rfl
 | d' :: r,t,d,h=>by
  rw [lF,Y9 r (λh'=>h (by simp [h'])),gK (λe=>h (by simp [e]))]
theorem Za:∀(ds:List Nat) {t:List SV} {d:Nat},(lF ds t)[d]?=some .any\/(lF ds t)[d]?=t[d]?
 | [],_,_=>.inr rfl
 | d' :: r,t,d=>by
  rw [lF]
  rcases Za r (t:=t.set d' .any) (d:=d) with h|h
  ·exact .inl h
  ·rw [h,gL]
   split
   ·split
    ·exact .inl rfl
    ·right;rename_i e hn;subst e;simp at hn ⊢;exact hn
   ·exact .inr rfl
theorem Yh:∀(ds:List Nat) {t:List SV} {d:Nat} {v:SV},d∉ds->(lF ds t).set d v=lF ds (t.set d v)
 | [],_,_,_,_=>rfl
 | d' :: r,t,d,v,h=>by
  rw [lF,lF,Yh r (λh'=>h (by simp [h'])),PG _ _ (λe=>h (by simp [e]))]
theorem Den.but {ds:List Tmp} {a b:Act} (D:Den f s η H b w) (h:wQ ds a b):Den f ⟨lF ds s.t,s.b⟩ η H a w:={ D with
 t:=by
  have h1:=PQ ds D.t
  refine Yg h1 (by simp [h.z]) λd=>?_
  by_cases hd:d∈ds
  ·by_cases hl:d < s.t.length
   ·exact .inl (Qe ds hd hl)
   ·right
    have h2:b.tmps.size=s.t.length:=by have:=jj D.t;simpa using this
    rw [pD (by simp [h2];omega),pD (by simp [h.z,h2];omega)]
  ·right
   have:=h.t d hd
   simpa using this.symm
 d:=by rw [h.d];exact D.d }
def pW:List (Nat × Oper × Nat)->List Tmp
 | []=>[]
 | x :: r=>match x.2.1.dst with
  | some d=>d :: pW r
  | none=>pW r
theorem Hr:∀{L:List (Nat × Oper × Nat)} {d:Tmp},d∈pW L↔∃x∈L,x.2.1.dst=some d
 | [],d=>by simp [pW]
 | x :: r,d=>by
  unfold pW
  split
  ·rename_i d' jC
   rw [cJ,Hr]
   constructor
   ·rintro (rfl|⟨y,hy,h⟩)
    ·exact ⟨x,by simp,jC⟩
    ·exact ⟨y,by simp [hy],h⟩
   ·rintro ⟨y,hy,h⟩
    rcases cJ.1 hy with rfl|hy
    ·rw [jC] at h;simp at h;exact .inl h.symm
    ·exact .inr ⟨y,hy,h⟩
  ·rename_i jC
   rw [Hr]
   constructor
   ·rintro ⟨y,hy,h⟩;exact ⟨y,by simp [hy],h⟩
   ·rintro ⟨y,hy,h⟩
    rcases cJ.1 hy with rfl|hy
    ·rw [jC] at h;cases h
    ·exact ⟨y,hy,h⟩
def Iq (X:Ctx) (s:St) (o:Oper):Prop:=match o.dst with
 | some d=>match et X s 0 o.op with
  | .pure v []=>s.t[d]?=some v
  | _=>False
 | none=>False
def Mn (X:Ctx):List Oper->St->Prop
 | [],_=>True
 | o :: r,s=>Iq X s o/\Mn X r s
theorem Xk:∀{os:List Oper} {s:St},Mn X os s->∀o∈os,Iq X s o
 | [],_,_,o,h=>by cases h
 | x :: r,s,h,o,ho=>by
  rcases cJ.1 ho with rfl|ho
  ·exact h.1
  ·exact Xk h.2 o ho
theorem Yi (C:X.Ok P) {ops:Array Oper} {k:St->Prop}:∀(A:List (Nat × Oper × Nat)) {s:St} {η:Nat->Value} {H:bu} {a:Act},(∀x∈A,qx x.2.1=true)->Den f s η H a w->jW X ops.toList (ol A) s k ->
  ∃s1 a1 η1 H1,Den f s1 η1 H1 a1 w/\k s1/\wQ (pW A) a a1
 | [],s,η,H,a,_,D,h=>⟨s,a,η,H,D,h,⟨rfl,rfl,λ_ _=>rfl⟩⟩
 | x :: A,s,η,H,a,hl,D,h=>by
  obtain ⟨s1,h1,h2⟩:=sU.1 h
  obtain ⟨u,η1,H1,D1⟩:=aiW C D (hl x (by simp)) h1
  obtain ⟨s2,a2,η2,H2,D2,hk,hs⟩:=Yi C A (λy hy=>hl y (by simp [hy])) D1 h2
  refine ⟨s2,a2,η2,H2,D2,hk,?_⟩
  obtain ⟨d,hd⟩:=Yf (hl x (by simp))
  have yX:pW (x :: A)=d :: pW A:=by simp only [pW,hd]
  rw [hd] at hs
  refine ⟨by rw [<-hs.d];rfl,by rw [<-hs.z];simp [Act.put],λt ht=>?_⟩
  rw [yX] at ht
  rw [<-hs.t t (λh=>ht (by simp [h]))]
  simp only [Act.put]
  rw [Pd (λe=>ht (by simp [e]))]
theorem Wc {ops:List Oper} {k:St->Prop}:∀(L1:List (Oper × Nat)) {L2:List (Oper × Nat)} {s:St},jW X ops L1 s (λs1=>jW X ops L2 s1 k)->jW X ops (L1++L2) s k
 | [],_,_,h=>h
 | x :: L1,L2,s,h=>by
  obtain ⟨s1,h1,h2⟩:=sU.1 h
  exact sU.2 ⟨s1,h1,Wc L1 h2⟩
theorem Wv {ops:List Oper} {k:St->Prop} {s:St}:∀(A:List (Nat × Oper × Nat)),(∀x∈A,qx x.2.1=true/\Iq X s x.2.1)->(∀x∈A,∀d,x.2.1.dst=some d->d∉kJ x.2.1.op) ->
  A.Pairwise (λx y=>∀d,y.2.1.dst=some d->d∉kJ x.2.1.op/\x.2.1.dst≠some d)->k s->jW X ops (ol A) ⟨lF (pW A) s.t,s.b⟩ k
 | [],_,_,_,h=>h
 | x :: A,hl,Ct,hp,h=>by
  rw [fx] at hp
  obtain ⟨gQ,cC⟩:=hl x (by simp)
  obtain ⟨d,hd⟩:=Yf gQ
  have yX:pW (x :: A)=d :: pW A:=by simp only [pW,hd]
  have fM:d∉pW A:=λhm=>by
   obtain ⟨y,hy,Dg⟩:=Hr.1 hm
   exact (hp.1 y hy d Dg).2 hd
  unfold Iq at cC
  rw [hd] at cC
  simp only at cC
  split at cC<;>try exact cC.elim
  rename_i v hv
  rw [yX]
  refine sU.2 ⟨⟨lF (pW A) s.t,s.b⟩,?_,Wv A (λy hy=>hl y (by simp [hy])) (λy hy=>Ct y (by simp [hy])) hp.2 h⟩
  unfold Out vN
  rw [ahk gQ]
  refine ⟨v,[],?_,?_⟩
  ·rw [aiX gQ,VK X (s:=⟨lF (d :: pW A) s.t,s.b⟩) (s':=s) 0 x.2.1.op (λt ht=>?_) rfl,hv]
   ·exact ⟨rfl,rfl⟩
   ·refine Y9 _ λhm=>?_
    rcases cJ.1 hm with rfl|hm
    ·exact Ct x (by simp) _ hd ht
    ·obtain ⟨y,hy,Dg⟩:=Hr.1 hm
     exact (hp.1 y hy t Dg).1 ht
  ·unfold St.jA
   rw [hd]
   simp only [lC]
   rw [lF,Yh _ fM,List.set_set,Lc _ _ _ cC]
def EB (ops:List Oper) (i:Nat):List Oper:=((ops.take i).zipIdx.filter λp=>!((Ap ops []).getD i 0).testBit p.2).map (·.1)
def ZY (ops:List Oper) (h p:Oper) (j:Nat):Bool:=qx p&&match p.dst with
 | some d=>!(kJ h.op).contains d&&(!(kJ p.op).contains d&&(ops.take j).all λq=>!(kJ q.op).contains d&&q.dst != some d)
 | none=>false
def LM (ops:List Oper) (i:Nat):Bool:=match ops[i]? with
 | some h=>h.guard.isNone&&((match h.op with
  | .call c=>match c.callee with
   | .value (.func _)=>true
   | _=>false
  | _=>false)&&(((ops.take i).zipIdx.all λp=>((Ap ops []).getD i 0).testBit p.2||ZY ops h p.1 p.2) &&
   ((ops.drop (i+1)).zipIdx.all λp=>((Ap ops []).getD (i+1+p.2) 0).testBit i)))
 | none=>false
structure acd (ops:List Oper) (i:Nat) (h:Oper):Prop where
 at_:ops[i]?=some h
 guard:h.guard=none
 call:∃c g,h.op=.call c/\c.callee=.value (.func g)
 xb:∀j p,j < i->ops[j]?=some p->nf ops j i\/(qx p=true/\p∈EB ops i/\∀d,p.dst=some d->d∉kJ h.op/\d∉kJ p.op/\∀j' q,j' < j->ops[j']?=some q->d∉kJ q.op/\q.dst≠some d)
 back:∀j o,i < j->ops[j]?=some o->nf ops i j
theorem agX {ops:List Oper} {i:Nat} (h:LM ops i=true):∃o,acd ops i o:=by
 have hm:=O4 ops ops [] [] rfl rfl (λi j h=>by simp at h)
 unfold LM at h
 split at h
 ·rename_i o ho
  simp only [cG,Pe] at h
  obtain ⟨h1,h2,h3,h4⟩:=h
  refine ⟨o,ho,h1,?_,λj p hj hp=>?_,λj q hj hq=>?_⟩
  ·split at h2
   ·rename_i c hc
    split at h2
    ·rename_i g hg;exact ⟨c,g,hc,hg⟩
    ·cases h2
   ·cases h2
  ·have fi:(p,j)∈(ops.take i).zipIdx:=by
    rw [Es,WV hj]
    exact hp
   have:=gM.1 h3 (p,j) fi
   simp only [oq] at this
   cases hb:((Ap ops []).getD i 0).testBit j with
   | true=>exact .inl (hm i j hb)
   | false =>
    right
    rcases this with h|h
    ·rw [hb] at h;cases h
    unfold ZY at h
    simp only [cG] at h
    refine ⟨h.1,?_,λd hd=>?_⟩
    ·unfold EB
     exact iM.2 ⟨(p,j),lP.2 ⟨fi,by simp only [hb];rfl⟩,rfl⟩
    ·have h5:=h.2
     rw [hd] at h5
     simp only [cG] at h5
     refine ⟨by simpa using h5.1,by simpa using h5.2.1,λj' q Dc hq=>?_⟩
     have h6:=gM.1 h5.2.2 q (by
      refine cf (i:=j') ?_
      rw [WV Dc];exact hq)
     simp only [cG] at h6
     exact ⟨by simpa using h6.1,by simpa using h6.2⟩
  ·have fi:(q,j - (i+1))∈(ops.drop (i+1)).zipIdx:=by
    rw [Es,kb,show i+1+(j - (i+1))=j by omega]
    exact hq
   have:=gM.1 h4 _ fi
   simp only at this
   rw [show i+1+(j - (i+1))=j by omega] at this
   exact hm j i this
 ·cases h
def Rz (X:Ctx) (call:pe) (S:List SV) (ops:List Oper) (i:Nat) (s:St) (k:St->Prop):Prop:=match ops[i]? with
 | none=>False
 | some h=>match aa2 ops s with
  | false=>False
  | true=>jW X ops ((eS ops s.b.length).take i) { s with b:=s.b++jL (pM ops) } λs1 =>
   wh X call S h 0 s1 λs2=>match Cs ((eS ops s.b.length).drop (i+1)) s2.b&&Ax ops (qY ops (eS ops s.b.length) s2) ops with
    | true=>Mn X (EB ops i) s2/\jW X ops ((eS ops s.b.length).drop (i+1)) s2 k
    | false=>False
section
variable {P:Program} {X:Ctx} {f f1:Fr} {s:St} {η:Nat->Value} {H:bu} {a a':Act} {w:World} {o:Oper}
theorem aiY {ds:List Nat} {s:St} {t:Tmp} {l:Nat} (h:gZ ⟨lF ds s.t,s.b⟩ t=some l):gZ s t=some l:=by
 unfold gZ at h ⊢
 rcases Za ds (t:=s.t) (d:=t) with h1|h1
 ·simp only [h1,tX] at h
  cases h
 ·simpa only [h1] using h
theorem ahl (C:X.Ok P) (I:mZ X) {call:pe} (CO:wS P X call) {r:Bool} {F:Fence} (RR:RF r F) {ops:Array Oper} (O:Ordered ops.toList) {hh:Nat × Oper × Nat} (B:acd ops.toList hh.1 hh.2.1) (hs:ue ops.toList=true) {Q0:Act->World->Prop} {k k1:St->Prop}
  (hk:∀s' η' H' a' w',Den f s' η' H' a' w'->k s'->uO Q0 .normal a' w') {R:List (Nat × Oper × Nat)} (uD:∀y∈R,hh.1 < y.1) (wm:∀y∈R,ops[y.1]?=some y.2.1)
  (ie:∀s2,k1 s2->∃Ks,k7 ops s2 R/\(∀ds,pQ ops.toList Ks ⟨lF ds s2.t,s2.b⟩)/\(∀y:Nat × Oper × Nat,ops[y.1]?=some y.2.1->qx y.2.1=true->uv ops.toList Ks y.2.1 y.2.2)/\(∀y∈R,uv ops.toList Ks y.2.1 y.2.2)/\(∀q∈EB ops.toList hh.1,Iq X s2 q)/\jW X ops.toList (ol R) s2 k) :
  ∀(n:Nat) (A:List (Nat × Oper × Nat)) {cL:Array Bool} {Ks:Tmp->List Nat} {s:St} {η:Nat->Value} {H:bu} {a:Act} {w:World},A.length+R.length+1=n->(∀y∈A,y.1 < hh.1)->k7 ops s A->pQ ops.toList Ks s->(∀y∈A,uv ops.toList Ks y.2.1 y.2.2) ->
   ou ops (A++hh :: R) cL->Den f s η H a w->jW X ops.toList (ol A) s (λs1=>wh X call f.sS hh.2.1 0 s1 k1)->wpAnyIn F 0 P .any ops (uO Q0) n cL a w:=by
 intro n
 induction n with
 | zero=>intro A _ _ _ _ _ _ _ hn;omega
 | succ n ih =>
  intro A cL Ks s η H a w hn CL W FA hL Li D h
  have wj:ops[hh.1]?=some hh.2.1:=by simpa using B.at_
  have uA:∀y∈A++hh :: R,ops[y.1]?=some y.2.1:=by
   intro y hy
   rcases dD.1 hy with hy|hy
   ·exact W.get y hy
   ·rcases cJ.1 hy with rfl|hy
    ·exact wj
    ·exact wm y hy
  constructor
  ·intro hr
   cases A with
   | nil =>
    have:=ou.first O Li wj
    rw [hr] at this;cases this
   | cons x A =>
    have:=ou.first O (L:=A++hh :: R) Li (W.get x (by simp))
    rw [hr] at this;cases this
  ·intro i hi
   obtain ⟨h0,o,ho,vH⟩:=mem_ready.1 hi
   have aO:=(fQ.1 ho).1
   obtain ⟨x,hx,rfl⟩:=(Li.list i aO).1 h0
   rcases dD.1 hx with TK|wi
   ·
    obtain ⟨A1,A2,rfl⟩:=Ec TK
    have jf:=W.get x (by simp)
    have uR:=ou.step (A:=A1) (B:=A2++hh :: R) (by simpa using Li) hi
    have ju:=jO.1 (jO.1 Li.inc).1
    have hA:∀p∈A1,vG ops.toList p.2.1 x.2.1:=by
     intro p qD
     have uN:=W.get p (by simp [qD])
     rcases O.apart x.1 x.2.1 p.1 p.2.1 (by simpa using jf) (by simpa using uN) (ju.2.2 p qD x (by simp)) with hF|j4
     ·exact absurd rfl (Li.xb hi hF (fQ.1 uN).1 p (by simp [qD]))
     ·exact Kz j4
    have h2:=HJ C x A2 A1 ⟨η,H,a,w,D⟩ FA hL W hA h
    obtain ⟨s1,h3,h4⟩:=sU.1 h2
    have lV:(A1++x :: A2).Perm (x :: (A1++A2)):=G7
    have fi:x.2.1∈ops.toList:=Array.mem_toList_iff.2 (wL jf)
    have Je:=FA.out fi (hL x (by simp)) (λf S h=>(C.sp f S h).lr) h3
    have W':=(W.perm lV).tail h3
    have lS:=Hf C D jf (λha=>W.un x (by simp) ha) (W.store x (by simp)) h3 (Q:=uO Q0) (K:=λa' w'=>∃η' H',Den f s1 η' H' a' w') λη' H' a' w' D'=>⟨η',H',D'⟩
    unfold wpOp at lS
    unfold wpOpIn
    rw [jf] at lS ⊢
    simp only at lS ⊢
    have fin:∀a' w',(∃η' H',Den f s1 η' H' a' w')->wpAnyIn F 0 P .any ops (uO Q0) n (cL.setIfInBounds x.1 true) a' w':=by
     intro a' w' ⟨η',H',D'⟩
     exact ih (A1++A2) (by simp at hn ⊢;omega) (λy hy=>CL y (lV.mem_iff.2 (by simp only [cJ];exact .inr hy))) W' Je (λy hy=>hL y (lV.mem_iff.2 (by simp only [cJ];exact .inr hy))) (by simpa using uR) D' h4
    by_cases hw:Region.wanted x.2.1 (yielded ops a.tmps)=true
    ·rw [if_pos hw] at lS ⊢
     rcases lS with lS|lS
     ·have fM:vz x.2.1.op=false:=by
       have:=gM.1 hs x.2.1 fi
       cases cC:rT x.2.1.op
       ·rw [cC] at this;simpa using this
       ·cases eQ:x.2.1.op<;>rw [eQ] at cC<;>first|rfl|cases cC
      exact Oper.wpIn_mono (λa' w' hq=>fin a' w' hq) (yy RR fM lS)
     ·exact absurd lS.2 Hz
    ·rw [if_neg hw] at lS ⊢
     exact ⟨λg _=>RR.fn g,fin _ _ lS⟩
   ·rcases cJ.1 wi with rfl|wi
    ·
     have wY:∀y∈A,qx y.2.1=true/\y.2.1∈EB ops.toList x.1/\∀d,y.2.1.dst=some d->d∉kJ x.2.1.op/\d∉kJ y.2.1.op/\∀j' q,j' < y.1->ops.toList[j']?=some q->d∉kJ q.op/\q.dst≠some d:=by
      intro y hy
      rcases B.xb y.1 y.2.1 (CL y hy) (by simpa using W.get y hy) with hF|h
      ·exact absurd rfl (Li.xb hi hF (fQ.1 (W.get y hy)).1 y (by simp [hy]))
      ·exact h
     obtain ⟨s1,a1,η1,H1,D1,h1,ana⟩:=Yi C A (λy hy=>(wY y hy).1) D h
     obtain ⟨c,g,MP,Ji⟩:=B.call
     have TJ:fZ x.2.1.op=false:=by
      rw [MP]
      cases c
      simp only at Ji
      subst Ji
      rfl
     have gk:rT x.2.1.op=false:=by rw [MP];rfl
     have fM:vz x.2.1.op=false:=by rw [MP];rfl
     have uR:=ou.step (A:=A) (B:=R) Li hi
     unfold wpOpIn
     rw [wj]
     simp only
     rw [if_pos (by simp [Region.wanted,B.guard])]
     refine ahV RR ana MP Ji (λt ht hm=>?_) (K:=λa' w'=>∃s2 η' H',Den f s2 η' H' a' w'/\k1 s2) (λe a w he h=>by cases e<;>first|exact absurd rfl he|exact h) Hz (λa2 b2 w' gI hb=>?_)
      (Em C I CO RR (s:=s1) D1 (l:=0) (by intro ha;rw [TJ] at ha;cases ha) (by intro ha;rw [gk] at ha;cases ha) fM h1 (Q:=uO Q0) (K:=λa' w'=>∃s2 η' H',Den f s2 η' H' a' w'/\k1 s2) λs' η' H' a' w' D' gz=>⟨s',η',H',D',gz⟩)
     ·obtain ⟨y,hy,Dg⟩:=Hr.1 hm
      exact ((wY y hy).2.2 t Dg).1 ht
     obtain ⟨s2,η2,H2,D2,sy⟩:=hb
     obtain ⟨Ks2,W2,TM,hL1,TN,cC,h2⟩:=ie s2 sy
     have D3:=D2.but gI
     have abb:=(jO.1 Li.inc).1
     have Nr:=Wv (X:=X) (ops:=ops.toList) (k:=λs3=>jW X ops.toList (ol R) s3 k) (s:=s2) A (λy hy=>⟨(wY y hy).1,cC _ (wY y hy).2.1⟩) (λy hy d hd=>((wY y hy).2.2 d hd).2.1)
      (abb.imp_of_mem λ{p q} hp hq aO d hd=>((wY q hq).2.2 d hd).2.2 p.1 p.2.1 aO (by simpa using W.get p hp)) h2
     have aoO:jW X ops.toList (ol (A++R)) ⟨lF (pW A) s2.t,s2.b⟩ k:=by
      have:=Wc (ol A) Nr
      unfold ol at this ⊢
      rwa [qm]
     refine Y8 RR hs Hz _ _ _ _ ?_
     refine Y5 C O hk n (A++R) (by simp at hn ⊢;omega) ⟨λy hy=>?_,λy hy=>?_,λy hy ha=>?_,?_⟩ uR.inc uR.list uR.all uR.down (TM _) (λy hy=>?_) D3 aoO
     ·rcases dD.1 hy with hy|hy
      ·exact W.get y hy
      ·exact wm y hy
     ·rcases dD.1 hy with hy|hy
      ·exact W.store y hy
      ·exact W2.store y hy
     ·rcases dD.1 hy with hy|hy
      ·rw [KC (wY y hy).1] at ha;cases ha
      ·exact W2.un y hy ha
     ·refine jO.2 ⟨abb.imp_of_mem λ{p q} hp hq _ ha _=>?_,W2.gH,λp hp q hq ha _=>?_⟩
      ·rw [KC (wY p hp).1] at ha;cases ha
      ·rw [KC (wY p hp).1] at ha;cases ha
     ·rcases dD.1 hy with hy|hy
      ·exact hL1 y (W.get y hy) (wY y hy).1
      ·exact TN y hy
    ·
     have hF:=B.back x.1 x.2.1 (uD x wi) (by simpa using wm x wi)
     exact absurd rfl (Li.xb hi hF (fQ.1 wj).1 hh (by simp))
theorem agY (C:X.Ok P) (I:mZ X) {call:pe} (CO:wS P X call) {r:Bool} {F:Fence} (RR:RF r F) {id:Nat} {ops:Array Oper} (hs:ue ops.toList=true) (hd:Hx ops.toList=true) {i:Nat} (hb:LM ops.toList i=true) {Q:Exit->Act->World->Prop} {k:St->Prop}
  (hk:∀s' η' H' a' w',Den f s' η' H' a' w'->k s'->Q .normal a' w') (D:Den f s η H a w) (h:Rz X call f.sS ops.toList i s k):(Code.region id ops true).wpIn F 0 P Q a w:=by
 refine wpIn_mono (Q:=uO (Q .normal)) ?_ (λe a' w' h=>by cases e<;>first|exact h|exact h.elim)
 have hk:∀s' η' H' a' w',Den f s' η' H' a' w'->k s'->uO (Q .normal) .normal a' w':=hk
 have O:=VP hd
 obtain ⟨eQ,B⟩:=agX hb
 unfold Rz at h
 rw [B.at_] at h
 simp only at h
 split at h
 ·exact h.elim
 rename_i Fh
 let n:=s.b.length
 let s0:St:={ s with b:=s.b++jL (pM ops.toList) }
 have D1:=D.ext (pM ops.toList)
 have D2:Den f s0 η H a { w with drawn:=w.drawn+1 }:=D1.grown (Ko w none)
 have W:k7 ops s0 (items ops.toList n):=O3 hs s
 have hlen:(items ops.toList n).length=ops.size:=by
  have:=congrArg List.length (tU ops.toList n)
  simpa using this
 have CM:i < ops.size:=by
  have:=(a7.1 B.at_).1
  simpa using this
 have fV:items ops.toList n=(items ops.toList n).take i++(items ops.toList n)[i]'(by rw [hlen];exact CM) :: (items ops.toList n).drop (i+1):=by
  rw [WX,List.take_append_drop]
 have CK:∀(j:Nat) (x:Nat × Oper × Nat),(items ops.toList n)[j]?=some x->x.1=j/\ops[j]?=some x.2.1/\(eS ops.toList n)[j]?=some x.2:=by
  intro j x hx
  have h1:=W.get x (cf hx)
  have h2:((items ops.toList n).map (·.1))[j]?=some x.1:=by rw [ml,hx];rfl
  rw [tU,Pp (by
   have:=(a7.1 hx).1
   rw [hlen] at this;simpa using this)] at h2
  simp at h2
  have h3:(ol (items ops.toList n))[j]?=some x.2:=by unfold ol;rw [ml,hx];rfl
  rw [ya] at h3
  exact ⟨h2.symm,by rw [h2];exact h1,h3⟩
 have Jg:(items ops.toList n)[i]?=some ((items ops.toList n)[i]'(by rw [hlen];exact CM)):=ea _
 generalize (items ops.toList n)[i]'(by rw [hlen];exact CM)=hh at fV Jg
 obtain ⟨FU,NG,_⟩:=CK i hh Jg
 have MN:hh.2.1=eQ:=by
  have:ops[i]?=some eQ:=by simpa using B.at_
  rw [NG] at this;simpa using this
 have inc:(items ops.toList n).Pairwise (λx y=>x.1 < y.1):=by
  have h2:((items ops.toList n).map (·.1)).Pairwise (· < ·):=by rw [tU];exact BR
  rw [qT] at h2
  exact h2
 have Ip:=inc
 rw [fV] at Ip
 have Fi:=jO.1 Ip
 have TO:ol ((items ops.toList n).take i)=(eS ops.toList n).take i:=by unfold ol;rw [List.map_take];show (ol (items ops.toList n)).take i=_;rw [ya]
 have Jh:ol ((items ops.toList n).drop (i+1))=(eS ops.toList n).drop (i+1):=by unfold ol;rw [List.map_drop];show (ol (items ops.toList n)).drop (i+1)=_;rw [ya]
 have FA:pQ ops.toList (qY ops.toList (eS ops.toList n) s) s0 :=
  ⟨λt A hA l hl=>by
   have hl:gZ s t=some l:=hl
   exact GL hA (by simp [Cd,hl]),K3,Hy Fh⟩
 have uD:∀y∈(items ops.toList n).drop (i+1),hh.1 < y.1:=λy hy=>(fx.1 Fi.2.1).1 y hy
 refine wpIn_region_any C.mixed ?_
 refine ahl C I CO RR O (by rw [FU,MN];exact B) hs hk (k1:=λs2=>match Cs ((eS ops.toList s.b.length).drop (i+1)) s2.b&&Ax ops.toList (qY ops.toList (eS ops.toList s.b.length) s2) ops.toList with
    | true=>Mn X (EB ops.toList i) s2/\jW X ops.toList ((eS ops.toList s.b.length).drop (i+1)) s2 k
    | false=>False) (R:=(items ops.toList n).drop (i+1)) uD
  (λy hy=>W.get y (tW hy)) (λs2 sy=>?_) ops.size ((items ops.toList n).take i) ?_ (λy hy=>Fi.2.2 y hy hh (by simp)) (W.sub (List.take_sublist _ _)) FA
  (λy hy=>K4 s y (qk hy)) ⟨?_,?_,?_,?_⟩ D2 ?_
 ·split at sy
  ·rename_i hq
   simp only [cG] at hq
   refine ⟨qY ops.toList (eS ops.toList n) s2,⟨λx hx=>W.get x (tW hx),λx hx=>W.store x (tW hx),λx hx ha=>?_,W.gH.sublist (Pu _ _)⟩,
    λds=>⟨λt A hA l hl=>GL hA (by simp [Cd,aiY hl]),K3,Hy hq.2⟩,λy hy hl t A _ _ ha _=>(by rw [KC hl] at ha;cases ha),λy hy=>K4 s2 y (tW hy),
    λq hq=>Xk sy.1 q (by rw [FU] at hq;exact hq),by rw [Jh];exact sy.2⟩
   refine PR hq.1 x.2 ?_ ha
   rw [<-Jh]
   exact G3 hx
  ·exact sy.elim
 ·simp only [jd,tY,hlen];omega
 ·rw [<-fV];exact inc
 ·intro j hj
  rw [<-fV]
  have:(Array.replicate ops.size false).getD j true=false:=by simp [hj]
  simp only [this,true_iff]
  have hm:j∈(items ops.toList n).map (·.1):=by rw [tU];simpa using hj
  obtain ⟨x,hx,rfl⟩:=iM.1 hm
  exact ⟨x,hx,rfl⟩
 ·intro j
  by_cases hj:j < ops.size
  ·right;left;simp [hj]
  ·right;right;omega
 ·intro j o e ho hl
  exfalso
  by_cases hj:j < ops.size
  ·simp [hj] at hl
  ·simp [hj] at hl
 ·rw [TO,MN];exact h
end
end
def Cu (j:Nat):List Nat->Bool
 | []=>false
 | x :: r=>Nat.beq j x||Cu j r
def AD (L:List Nat) (i:Nat) (o:Oper):Bool:=!Cu i L&&o.after.toList.all λe=>!Region.binds .any e||Cu e.on L
def yE (L:List Nat):List Oper->Nat->List Nat
 | [],_=>[]
 | o :: r,i=>match AD L i o with
  | true=>i :: yE L r (i+1)
  | false=>yE L r (i+1)
def QY (f:Nat->Prop):List Nat->Prop
 | []=>True
 | [i]=>f i
 | i :: r=>f i/\QY f r
def CN (
     X:Ctx) (call:pe) (S:List SV) (ops:List Oper):Nat->List Nat->St->(St->Prop)->Prop
 | 0,L,s,k=>match yE L ops 0 with
  | []=>k s
  | _=>False
 | n+1,L,s,k=>match yE L ops 0 with
  | []=>k s
  | rs=>QY (λi=>match ops[i]? with
   | none=>False
   | some o=>LJ ops o s
    (λs=>match fZ o.op with
     | true=>wh X call S o s.b.length { s with b:=s.b++[.un] } λs'=>CN X call S ops n (i :: L) s' k
     | false=>wh X call S o 0 s λs'=>CN X call S ops n (i :: L) s' k)
    (λs=>rX o s λs'=>CN X call S ops n (i :: L) s' k)) rs
theorem Hg {j:Nat}:∀{l:List Nat},Cu j l=true↔j∈l
 | []=>by simp [Cu]
 | x :: r=>by simp [Cu,BO,Hg]
theorem Ww {f:Nat->Prop}:∀{l:List Nat},QY f l->∀i∈l,f i
 | [],_,i,h=>by cases h
 | [x],h,i,hi=>by rw [gD] at hi;subst hi;exact h
 | x :: y :: r,h,i,hi=>by
  rcases cJ.1 hi with rfl|hi
  ·exact h.1
  ·exact Ww h.2 i hi
theorem Qf {L:List Nat}:∀{ops:List Oper} {n i:Nat},i∈yE L ops n↔n<=i/\∃o,ops[i - n]?=some o/\AD L i o=true
 | [],n,i=>by simp [yE]
 | o :: r,n,i=>by
  have ih:=@Qf L r (n+1) i
  have e:(n<=i/\∃p,(o :: r)[i - n]?=some p/\AD L i p=true)↔(i=n/\AD L n o=true)\/(n+1<=i/\∃p,r[i - (n+1)]?=some p/\AD L i p=true):=by
   constructor
   ·rintro ⟨h,p,hp,hb⟩
    rcases Nat.eq_or_lt_of_le h with rfl|h
    ·rw [zB] at hp;cases hp;exact .inl ⟨rfl,hb⟩
    ·rw [show i - n=(i - (n+1))+1 by omega] at hp
     exact .inr ⟨h,p,hp,hb⟩
   ·rintro (⟨rfl,hb⟩|⟨h,p,hp,hb⟩)
    ·exact ⟨fb _,o,by rw [zB];rfl,hb⟩
    ·exact ⟨by omega,p,by rw [show i - n=(i - (n+1))+1 by omega];exact hp,hb⟩
  rw [e,<-ih]
  show i∈(match AD L n o with|true=>n :: yE L r (n+1)|false=>yE L r (n+1))↔_
  split
  ·rename_i hb
   rw [cJ]
   constructor
   ·rintro (rfl|h)
    ·exact .inl ⟨rfl,hb⟩
    ·exact .inr h
   ·rintro (⟨rfl,-⟩|h)
    ·exact .inl rfl
    ·exact .inr h
  ·rename_i hb
   constructor
   ·exact .inr
   ·rintro (⟨-,h⟩|h)
    ·rw [hb] at h;cases h
    ·exact h
section
variable {P:Program} {X:Ctx} {f:Fr}
structure AE (ops:Array Oper) (L:List Nat) (cL:Array Bool):Prop where
 size:cL.size=ops.size
 at_:∀j,j < ops.size->(cL.getD j true=true↔j∈L)
theorem AE.fls {ops:Array Oper} {L:List Nat} {cL:Array Bool} (h:AE ops L cL) (hb:∀j∈L,j < ops.size) (j:Nat):cL.getD j false=true↔j∈L:=by
 by_cases hj:j < ops.size
 ·rw [<-h.at_ j hj]
  have:j < cL.size:=by rw [h.size];exact hj
  simp [this]
 ·have h1:¬j < cL.size:=by rw [h.size];exact hj
  constructor
  ·intro e;simp [h1] at e
  ·intro e;exact absurd (hb j e) hj
theorem AE.ready {ops:Array Oper} {L:List Nat} {cL:Array Bool} (h:AE ops L cL) (hb:∀j∈L,j < ops.size) (i:Nat):i∈Region.ready .any ops cL↔i∈yE L ops.toList 0:=by
 rw [mem_ready,Qf]
 constructor
 ·rintro ⟨h0,o,ho,eG⟩
  have aO:i < ops.size:=(fQ.1 ho).1
  refine ⟨cg _,o,by rw [Hb];simpa using ho,?_⟩
  simp only [AD,cG,oY,gM,oq]
  refine ⟨?_,λe he=>?_⟩
  ·cases hq:Cu i L
   ·rfl
   ·have:=(h.at_ i aO).2 (Hg.1 hq);rw [h0] at this;cases this
  ·cases TP:Region.binds .any e
   ·exact .inl rfl
   ·exact .inr (Hg.2 ((h.fls hb e.on).1 (eG e (by simpa using he) TP)))
 ·rintro ⟨-,o,ho,hr⟩
  rw [Hb] at ho
  have ho:ops[i]?=some o:=by simpa using ho
  have aO:i < ops.size:=(fQ.1 ho).1
  simp only [AD,cG,oY,gM,oq] at hr
  refine ⟨?_,o,ho,λe he TP=>?_⟩
  ·cases hq:cL.getD i true
   ·rfl
   ·have:=Hg.2 ((h.at_ i aO).1 hq);rw [hr.1] at this;cases this
  ·rcases hr.2 e (by simpa using he) with h1|h1
   ·rw [TP] at h1;cases h1
   ·exact (h.fls hb e.on).2 (Hg.1 h1)
theorem AE.set {ops:Array Oper} {L:List Nat} {cL:Array Bool} (h:AE ops L cL) {i:Nat} (hi:i < ops.size):AE ops (i :: L) (cL.setIfInBounds i true):=by
 refine ⟨by simp [h.size],λj hj=>?_⟩
 have dG:j < cL.size:=by rw [h.size];exact hj
 by_cases e:i=j
 ·subst e;simp [dG]
 ·rw [getD_set_ne true e,h.at_ j hj,cJ]
  constructor
  ·exact .inr
  ·rintro (rfl|h)
   ·exact absurd rfl e
   ·exact h
theorem KE (C:X.Ok P) (I:mZ X) {call:pe} (CO:wS P X call) {r0:Bool} {F:Fence} (R:RF r0 F) {ops:Array Oper} (cC:ue ops.toList=true)
  {Q:Exit->Act->World->Prop} {k:St->Prop} (hk:∀s' η' H' a' w',Den f s' η' H' a' w'->k s'->Q .normal a' w') :
  ∀(n:Nat) (L:List Nat) (cL:Array Bool) {s:St} {η:Nat->Value} {H:bu} {a:Act} {w:World},AE ops L cL->(∀j∈L,j < ops.size)->Den f s η H a w->CN X call f.sS ops.toList n L s k->wpAnyIn F 0 P .any ops Q n cL a w
 | 0,L,cL,s,η,H,a,w,A,hb,D,h=>by
  unfold CN at h
  split at h
  ·rename_i hr
   refine ⟨Er.2 λi hi=>?_,hk _ _ _ _ _ D h⟩
   rw [A.ready hb,hr] at hi;cases hi
  ·exact h.elim
 | n+1,L,cL,s,η,H,a,w,A,hb,D,h=>by
  unfold CN at h
  refine ⟨λh0=>?_,λi hi=>?_⟩
  ·split at h
   ·exact hk _ _ _ _ _ D h
   ·rename_i rs bO
    exfalso
    apply bO
    refine Er.2 λi hi=>?_
    rw [<-A.ready hb,h0] at hi;cases hi
  ·have j4:=(A.ready hb i).1 hi
   split at h
   ·rename_i hr;rw [hr] at j4;cases j4
   have h:=Ww h i j4
   obtain ⟨-,o,ho,-⟩:=Qf.1 j4
   rw [Hb] at ho
   rw [ho] at h
   have hi:ops[i]?=some o:=by simpa using ho
   have aO:i < ops.size:=(fQ.1 hi).1
   have A':=A.set aO
   have iK:∀j∈i :: L,j < ops.size:=λj hj=>by
    rcases cJ.1 hj with rfl|hj
    ·exact aO
    ·exact hb j hj
   have eG:=gM.1 cC o (by simpa using wL hi)
   have Dd:EA o:=by
    intro he
    rw [he] at eG
    simpa using eG
   have fM:vz o.op=false:=by
    cases cC:rT o.op
    ·rw [cC] at eG;simpa using eG
    ·cases eQ:o.op<;>rw [eQ] at cC<;>first|rfl|cases cC
   unfold wpOpIn
   rw [hi]
   simp only at h ⊢
   obtain ⟨s0,D0,-,h|h⟩:=Xh D (ops:=ops) h
   ·rw [if_pos h.1]
    have h2:=h.2
    split at h2
    ·refine Em C I CO R (s:={ s0 with b:=s0.b++[.un] }) (D0.ext 1) (λ_=>by simp) Dd fM h2 λs' η' H' a' w' D' gz=>?_
     exact KE C I CO R cC hk n (i :: L) _ A' iK D' gz
    ·rename_i nU
     refine Em C I CO R D0 (λha=>by rw [nU] at ha;cases ha) Dd fM h2 λs' η' H' a' w' D' gz=>?_
     exact KE C I CO R cC hk n (i :: L) _ A' iK D' gz
   ·rw [if_neg (by rw [h.1];simp)]
    have h2:=h.2
    unfold rX at h2
    exact ⟨λg _=>R.fn g,KE C I CO R cC hk n (i :: L) _ A' iK (D0.put o.dst (x:=.cM []) (by simp only [rel];exact ⟨[],rfl,by simp [aP]⟩)) h2⟩
end
end Go.Vc
