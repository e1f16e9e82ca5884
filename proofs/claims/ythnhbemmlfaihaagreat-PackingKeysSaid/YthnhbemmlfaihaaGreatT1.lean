import Derived.Test.YthnhbemmlfaihaaGreatT0
set_option linter.unusedVariables false
set_option linter.unusedSimpArgs false
set_option maxRecDepth 10000
set_option maxHeartbeats 64000000
namespace Go.Vc
open Go
structure AJ (p:Unit->Prop):Prop where
 out:p ()
structure AT (x:Unit->Bool):Prop where
 out:x ()=true
structure AU (x:Unit->Bool):Prop where
 out:x ()=false
structure Hyp (p:Unit->Prop):Prop where
 out:p ()
section
variable {η:Nat->Value} {H:bQ}
theorem aqe {x:Unit->Value} (ho:(SV.v x).one=true):(x ()).oneCell'=true:=by
 unfold SV.one at ho
 simp only at ho
 split at ho<;>first|(rename_i e;rw [e];rfl)|cases ho
theorem Ak {q:Nat->Live} {x:SV} {v:Value} (ho:x.one=true) (h:rel η q H x v):v.oneCell'=true:=by
 cases x<;>first|(have hv:=aqe ho;simp only [rel] at h;rw [h];exact hv)|skip
 all_goals (simp [SV.one] at ho)<;>simp only [rel] at h
 case bc=>subst h;rfl
 case b=>subst h;rfl
 case nb=>obtain ⟨c,rfl,_⟩:=h;rfl
 case ic=>subst h;rfl
 case i=>subst h;rfl
 case str=>subst h;rfl
 case cell=>exact h
 case di=>subst h;rfl
 case ptr l off =>
  split at h
  ·exact h.elim
  ·obtain ⟨x,rfl⟩:=h;rfl
  ·obtain ⟨bl,_,rfl⟩:=h;rfl
 case gZ l sz i off =>
  split at h
  ·exact h.elim
  ·obtain ⟨x,rfl⟩:=h;rfl
  ·obtain ⟨bl,n,c,_,rfl⟩:=h;rfl
 case own l =>
  split at h
  ·exact h.elim
  ·obtain ⟨x,n,c,rfl⟩:=h;rfl
  ·obtain ⟨_,x,n,c,rfl⟩:=h;rfl
 case gI l sz m n =>
  split at h
  ·exact h.elim
  ·obtain ⟨x,n,c,rfl⟩:=h;rfl
  ·obtain ⟨x,n,c,rfl⟩:=h.isSlice;rfl
 case eH=>obtain ⟨ad,rfl,_⟩:=h;rfl
 case sl=>obtain ⟨⟨ad,cap,rfl,_⟩,_⟩:=h;rfl
 case dC=>obtain ⟨ad,rfl,_⟩:=h;rfl
 case fn=>obtain ⟨fs,cs,rfl,_⟩:=h;rfl
 case nT=>obtain ⟨y,rfl,_⟩:=h;rfl
 case im=>obtain ⟨⟨ad,rfl,_⟩,_⟩:=h;rfl
 case mp=>rcases h.1 with ⟨rfl,_⟩|⟨_,_,_,rfl,_⟩<;>rfl
 case eV l =>
  split at h
  ·exact h.elim
  ·obtain ⟨x,rfl⟩:=h;rfl
  ·obtain ⟨_,x,rfl⟩:=h;rfl
 case iq l =>
  split at h
  ·exact h.elim
  ·obtain ⟨x,rfl⟩:=h;rfl
  ·obtain ⟨bl,_,rfl⟩:=h;rfl
end
mutual
inductive Le:SV->SV->Prop
 | refl (x:SV):Le x x
 | any (x:SV):Le x .any
 | cell {x:SV}:x.one=true->Le x .cell
 | b {x y:Unit->Bool}:x ()=y ()->Le (.b x) (.b y)
 | bc {c:Bool} {y:Unit->Bool}:c=y ()->Le (.bc c) (.b y)
 | arQ {x:Unit->Bool} {c:Bool}:x ()=c->Le (.b x) (.bc c)
 | i {k:IntKind} {x y:Unit->Int}:x ()=y ()->Le (.i k x) (.i k y)
 | ic {k:IntKind} {n:Int} {y:Unit->Int}:n=y ()->Le (.ic k n) (.i k y)
 | afT {k:IntKind} {x:Unit->Int} {n:Int}:x ()=n->Le (.i k x) (.ic k n)
 | str {x y:Unit->ByteArray}:x ()=y ()->Le (.str x) (.str y)
 | v {x y:Unit->Value}:x ()=y ()->Le (.v x) (.v y)
 | agg {cs ds:List SV}:dT cs ds->Le (.agg cs) (.agg ds)
 | opt {T:Type} {p:T->Prop} {y:SV} {x:T->SV} (t:T):p t->(∀t,LF (x t))->Le y (x t)->Le y (.opt p x)
 | dE {cs ds:List SV}:dT cs ds->Le (.dE cs) (.dE ds)
 | sl {T:Type} {sz:Nat} {c:T->List SV} {xs ys:Unit->List T}:xs ()=ys ()->Le (.sl sz c xs) (.sl sz c ys)
 | Xd {T T':Type} {sz:Nat} {c:T->List SV} {c':T'->List SV} {xs:Unit->List T} {ys:Unit->List T'}:(xs ()).length=(ys ()).length->(∀x,dm (c' x)) ->
  (∀(j:Nat) (x:T) (y:T'),(xs ())[j]?=some x->(ys ())[j]?=some y->dT (c x) (c' y))->Le (.sl sz c xs) (.sl sz c' ys)
 | di {T:Type} {sz:Nat} {c:T->List SV} {ys:Unit->List T}:ys ()=[]->(∀x,dm (c x))->Le .di (.sl sz c ys)
 | eH {T:Type} {cs:List SV} {n sz:Nat} {c:T->List SV} {ys:Unit->List T}:(ys ()).length=n->(∀y∈ys (),(c y).length=sz)->(∀x,dm (c x)) ->
  dT cs ((ys ()).flatMap c)->Le (.eH cs n) (.sl sz c ys)
 | dC {cs ds:List SV} {off:Nat}:dT cs ds->Le (.dC cs off) (.dC ds off)
 | gZ {l sz:Nat} {i j:Unit->Nat} {off:Nat}:i ()=j ()->Le (.gZ l sz i off) (.gZ l sz j off)
 | gI {l sz:Nat} {m n m' n':Unit->Nat}:m ()=m' ()->n ()=n' ()->Le (.gI l sz m n) (.gI l sz m' n')
 | mp {T:Type} {k:KD} {c:T->List SV} {m m':Unit->k.T->Option T}:m ()=m' ()->Le (.mp k c m) (.mp k c m')
 | im {T:Type} {sz:Nat} {c:T->List SV} {xs ys:Unit->List T}:xs ()=ys ()->Le (.im sz c xs) (.im sz c ys)
 | rO {T:Type} {sz:Nat} {c:T->List SV} {xs ys:Unit->List T}:xs ()=ys ()->Le (.im sz c xs) (.sl sz c ys)
 | arR {T:Type} {k:KD} {c:T->List SV} {x:Unit->Value} {m:Unit->k.T->Option T}:x ()=.map none->(∀n,m () n=none)->(∀x,dm (c x))->Le (.v x) (.mp k c m)
 | fn {f:Fn} {cs ds AV ds':List SV}:dT cs ds->dT AV ds'->Le (.fn f cs AV) (.fn f ds ds')
inductive dT:List SV->List SV->Prop
 | nil:dT [] []
 | cons {x y:SV} {xs ys:List SV}:Le x y->dT xs ys->dT (x :: xs) (y :: ys)
end
theorem I1 {η:Nat->Value} {q:Nat->Live} {H:bQ} {s s':List SV} {v:List Value} (h:a_ η q H (s++s') v) :
  a_ η q H s (v.take s.length)/\a_ η q H s' (v.drop s.length):=by
 have h1:=Gm h s.length
 have h2:=Gl h s.length
 simp only [Np,List.drop_left] at h1 h2
 exact ⟨h1,h2⟩
theorem DA {η:Nat->Value} {q:Nat->Live} {H:bQ} {T:Type} {c:T->List SV} {sz:Nat} :
  ∀{xs:List T} {v:List Value},(∀x∈xs,(c x).length=sz)->a_ η q H (xs.flatMap c) v->∀(j:Nat) (x:T),xs[j]?=some x ->
   a_ η q H (c x) ((v.drop (j*sz)).take sz)
 | [],v,_,_,j,x,hx=>by simp at hx
 | y :: r,v,hl,h,j,x,hx=>by
  have hy:(c y).length=sz:=hl y (by simp)
  rw [yt] at h
  obtain ⟨h1,h2⟩:=I1 h
  rw [hy] at h1 h2
  cases j with
  | zero=>simp at hx;subst hx;simpa using h1
  | succ j =>
   have:=DA (λx hx=>hl x (by simp [hx])) h2 j x (by simpa using hx)
   rw [List.drop_drop] at this
   rw [show (j+1)*sz=sz+j*sz by rw [Nat.add_mul];omega]
   exact this
mutual
theorem vI {η:Nat->Value} {q:Nat->Live} {H:bQ}:∀{x y:SV},Le x y->∀{v:Value},rel η q H x v->rel η q H y v
 | _,_,.refl _,_,h=>h
 | _,_,.any _,_,_=>by simp [rel]
 | _,_,.cell h1,_,h=>by simp only [rel];exact Ak h1 h
 | _,_,.b e,_,h=>by simp only [rel] at h ⊢;rw [<-e];exact h
 | _,_,.bc e,_,h=>by simp only [rel] at h ⊢;rw [<-e];exact h
 | _,_,.arQ e,_,h=>by simp only [rel] at h ⊢;rw [<-e];exact h
 | _,_,.i e,_,h=>by simp only [rel] at h ⊢;rw [<-e];exact h
 | _,_,.ic e,_,h=>by simp only [rel] at h ⊢;rw [<-e];exact h
 | _,_,.afT e,_,h=>by simp only [rel] at h ⊢;rw [<-e];exact h
 | _,_,.str e,_,h=>by simp only [rel] at h ⊢;rw [<-e];exact h
 | _,_,.v e,_,h=>by simp only [rel] at h ⊢;rw [<-e];exact h
 | _,_,.agg e,_,h=>by
  simp only [rel] at h ⊢
  obtain ⟨vs,h1,h2⟩:=h
  exact ⟨vs,h1,kC e h2⟩
 | _,_,.opt t ht dn e,_,h=>by
  simp only [rel]
  exact ⟨⟨t,ht,vI e h⟩,dn⟩
 | _,_,.dE e,_,h=>by
  simp only [rel] at h ⊢
  obtain ⟨vs,h1,h2⟩:=h
  exact ⟨vs,h1,kC e h2⟩
 | _,_,.sl e,_,h=>by simp only [rel] at h ⊢;rw [<-e];exact h
 | _,_,@Le.Xd T T' sz c c' xs ys e1 dn e2,_,h=>by
  simp only [rel] at h ⊢
  obtain ⟨⟨ad,cap,h1,h0,h2⟩,_⟩:=h
  refine ⟨⟨ad,cap,by rw [<-e1];exact h1,by omega,?_⟩,dn⟩
  rcases h2 with h2|⟨a,h3,h4,h5⟩
  ·left;exact mL (by rw [<-e1,h2];rfl)
  ·right
   refine ⟨a,h3,h4,λj y hy=>?_⟩
   have hj:j < (xs ()).length:=by rw [e1];exact (bX.1 hy).1
   obtain ⟨vals,g1,g2,g3⟩:=h5 j _ (eh hj)
   exact ⟨vals,g1,kC (e2 j _ y (eh hj) hy) g2,g3⟩
 | _,_,.di e dn,_,h=>by simp only [rel] at h ⊢;rw [e];exact ⟨⟨none,0,h,by simp,.inl rfl⟩,dn⟩
 | _,_,@Le.eH T cs n sz c ys e1 e2 dn e3,_,h=>by
  simp only [rel] at h ⊢
  obtain ⟨ad,h1,h2⟩:=h
  refine ⟨⟨ad,n,by rw [e1];exact h1,by omega,?_⟩,dn⟩
  rcases h2 with h2|⟨a,h3,h4,vals,h5,h6⟩
  ·left;exact mL (by omega)
  ·right
   refine ⟨a,h3,h4,λj x hx=>?_⟩
   have h7:=kC e3 h5
   have h8:=DA e2 h7 j x hx
   refine ⟨_,?_,h8,?_⟩
   ·rw [jQ h8];exact e2 x (b_ hx)
   ·intro i u hu
    rw [sA] at hu
    split at hu
    ·rw [lq] at hu
     have:=h6 _ u hu
     rwa [<-Nat.add_assoc] at this
    ·cases hu
 | _,_,.dC e,_,h=>by
  simp only [rel] at h ⊢
  obtain ⟨a,h1,vals,h2,h3⟩:=h
  exact ⟨a,h1,vals,kC e h2,h3⟩
 | _,_,.gZ e,_,h=>by simp only [rel] at h ⊢;rw [<-e];exact h
 | _,_,.gI e e',_,h=>by simp only [rel] at h ⊢;rw [<-e,<-e'];exact h
 | _,_,.mp e,_,h=>by simp only [rel] at h ⊢;rw [<-e];exact h
 | _,_,.im e,_,h=>by simp only [rel] at h ⊢;rw [<-e];exact h
 | _,_,.rO e,_,h=>by
  simp only [rel] at h ⊢
  rw [<-e]
  obtain ⟨⟨ad,h1,h2⟩,dn⟩:=h
  exact ⟨⟨ad,_,h1,cP _,h2⟩,dn⟩
 | _,_,.arR e e' dn,_,h=>by simp only [rel] at h ⊢;exact ⟨.inl ⟨h.trans e,e'⟩,dn⟩
 | _,_,.fn e e',_,h=>by
  simp only [rel] at h ⊢
  obtain ⟨fs,cs,h1,h2,h3⟩:=h
  exact ⟨fs,cs,h1,kC e h2,kC e' h3⟩
theorem kC {η:Nat->Value} {q:Nat->Live} {H:bQ}:∀{x y:List SV},dT x y->∀{v:List Value},a_ η q H x v->a_ η q H y v
 | _,_,.nil,_,h=>h
 | _,_,.cons e r,_,h=>by
  simp only [a_] at h ⊢
  obtain ⟨u,us,h1,h2,h3⟩:=h
  exact ⟨u,us,h1,vI e h2,kC r h3⟩
end
inductive TD where
 | int (k:IntKind)
 | bool
 | str
 | sl (e:TypeId)
 | ptr (e:TypeId)
 | st (fs:List (TypeId × Nat × Nat))
 | arr (n:Nat) (e:TypeId)
 | map (k v:TypeId)
 | other
structure TI where
 d:TD
 size:Nat
 bytes:Nat
 zero:Value
 flat:Bool:=false
 kd:Option (List IntKind):=none
def TI.agg (i:TI):Bool:=match i.d with|.st _|.arr _ _=>true|_=>false
def B6:Value->Value->Bool
 | .bool a,.bool b=>a == b
 | .int k a,.int k' b=>a == b
 | .string a,.string b=>a == b
 | _,_=>false
def tz:List Value->List Value->Bool
 | a :: as,b :: bs=>B6 a b&&tz as bs
 | _,_=>true
def vH:Value->Value->Bool
 | .bool _,.bool _=>true
 | .int k _,.int k' _=>k == k'
 | .string _,.string _=>true
 | _,_=>false
def qT:List Value->List Value->Bool
 | a :: as,b :: bs=>vH a b&&qT as bs
 | [],[]=>true
 | _,_=>false
structure B7 (P:Program) (kt:TypeId) (k:KD):Prop where
 check:∀(n:k.T),k.ok n->∀em w,(Instr.checkKey em 10000 kt (k.enc n)).run P w=.ok () w
 find:∀(n:k.T),k.ok n->∀(es:List MapEntry),(∀e∈es,∃n',k.ok n'/\e.key=k.enc n')->∀w,
  ((Instr.findKey kt (k.enc n) es).run P w=.ok none w/\∀e∈es,e.key≠k.enc n)\/∃j e,(Instr.findKey kt (k.enc n) es).run P w=.ok (some (j,e.val)) w/\es[j]?=some e/\e.key=k.enc n
 stays:∀(n:k.T),k.ok n->∀w,(Instr.keyThatStays (k.enc n) (k.enc n)).run P w=.ok (k.enc n) w
structure oZ (P:Program) (t:TypeId) (i:TI):Prop where
 info:∃inf,P.info? t=some inf/\inf.size=i.size/\inf.bytes=i.bytes/\inf.zero=some i.zero
 Au:i.zero.cells.size=i.size
 pos:0 < i.size
 desc:match i.d with
  | .int k=>P.underlying t=some (.int k)
  | .bool=>P.underlying t=some .bool
  | .str=>P.underlying t=some .string
  | .sl e=>P.underlying t=some (.slice e)
  | .ptr e=>P.underlying t=some (.pointer e)
  | .st gs=>∃fs:Array Field,P.underlying t=some (.struct fs)/\fs.size=gs.length /\
    ∀(j:Nat) (f:Field),fs[j]?=some f->∃inf,P.info? f.type=some inf/\inf.size≠0/\gs[j]?=some (f.type,f.offset,inf.size)
  | .arr n e=>P.underlying t=some (.array n e)
  | .map k v=>P.underlying t=some (.map k v)
  | .other=>∃d,P.underlying t=some d/\(∀x,d≠.struct x)/\(∀n e,d≠.array n e)
 flat:i.flat=true->i.agg=true/\∀(vs us:List Value) (w:World),vs.length=i.size->us.length=i.size ->
  qT vs us=true->qT vs i.zero.cells.toList=true->∀op x y,(op=.eql\/op=.neq) ->
  (do eqGuard op t x y (.agg vs.toArray) (.agg us.toArray);binOp op t (.agg vs.toArray) (.agg us.toArray):Sem Value).run P w =
   .ok (.bool (if op=.eql then tz vs us else !tz vs us)) w
 key:∀ks,i.kd=some ks->B7 P t (.ints ks)
structure iZ:Type 1 where
 T:Type
 c:T->List SV
 z:T
structure Spec:Type 1 where
 α:Type
 args:α->List SV
 pre:α->Prop
 res:α->SV
 fr:Bool:=false
structure Ctx:Type 1 where
 tt:TypeId->Option TI
 el:TypeId->Option iZ
 sp:FuncId->Option Spec
 inl:FuncId->Option Func
 cut:Nat->Bool:=λ_=>false
 lp:FuncId->Bool:=λ_=>false
 io:FuncId->Bool:=λ_=>false
 row:TypeId->Bool:=λ_=>false
 emp:TypeId->Bool:=λ_=>false
def bQ.j6 (H:bQ) (w:World):Prop:=∀b o,H b=some o->w.heap[b]?=some o
structure nP (P:Program) (f:FuncId) (fn:Func):Prop where
 get:P.funcs[f]?=some fn
 body:fn.body.isSome=true
 name : (fn.name == "runtime.NumGoroutine") = false
structure cS (P:Program) (f:FuncId) (S:Spec):Prop where
 fn:∃fn,nP P f fn
 lf:∀a,dm (S.args a)
 lr:∀a,LF (S.res a)
 run:∀a,S.pre a->∀(H F:bQ) (w:World) (vals:List Value),H.j6 w->F.j6 w->ez H (S.args a) vals ->
  Calls P f vals.toArray w λe w'=>∃v H',e=.returned v/\H.le H'/\H'.j6 w'/\F.j6 w' /\
   (∀b,H' b≠none->H b≠none\/F b=none)/\sJ H' (S.res a) v/\w'.os=w.os/\w'.tape=w.tape/\w'.output=w.output
 fresh:S.fr=true->∀a,S.pre a->∀(H F:bQ) (w:World) (vals:List Value),H.j6 w->F.j6 w->ez H (S.args a) vals ->
  Calls P f vals.toArray w λe w'=>∃v N,e=.returned v/\H.j6 w'/\F.j6 w'/\bQ.j6 N w'/\(∀b,N b≠none->H b=none/\F b=none)/\sJ N (S.res a) v /\
   w'.os=w.os/\w'.tape=w.tape/\w'.output=w.output
structure J7 (P:Program) (X:Ctx) (t:TypeId) (E:iZ):Prop where
 ti:∃i,X.tt t=some i
 len:∀i,X.tt t=some i->∀x,(E.c x).length=i.size
 lf:∀x,dm (E.c x)/\(E.c x).all SV.one=true
 zero:∀i,X.tt t=some i->∀H,ez H (E.c E.z) i.zero.cells.toList
structure Ctx.Ok (P:Program) (X:Ctx):Prop where
 tt:∀t i,X.tt t=some i->oZ P t i
 el:∀t E,X.el t=some E->J7 P X t E
 sp:∀f S,X.sp f=some S->cS P f S
 inl:∀f fn,X.inl f=some fn->nP P f fn
 mixed:P.follows .mixedOrders=true
def mb:Value->SV
 | .bool c=>.bc c
 | .int k n=>.ic k n
 | .string s=>.str λ_=>s
 | .slice none 0 0=>.di
 | v=>.v λ_=>v
def AW:Value->SV
 | .agg cs=>.agg (cs.toList.map mb)
 | v=>mb v
def ev (s:St):Operand->SV
 | .tmp t=>(s.t[t]?).getD .any
 | .const v=>AW v
 | .global g=>.v λ_=>.pointer (some ⟨g,0,none⟩)
 | .func f=>.fn (.func f) [] []
def SV.cells?:SV->Option (List SV)
 | .agg cs=>if cs.all SV.one then some cs else none
 | x=>if x.one then some [x] else none
def SV.HR:SV->Option (Unit->Bool)
 | .bc c=>some λ_=>c
 | .b x=>some x
 | _=>none
def SV.lD:SV->Option (IntKind × (Unit->Int))
 | .ic k n=>some (k,λ_=>n)
 | .i k n=>some (k,n)
 | _=>none
def jK (b:List Slot):Nat->SV->SV
 | 0,x=>x
 | n+1,.own l=>match b[l]? with
  | some (.dyn e sz c xs)=>.sl sz c xs
  | _=>.own l
 | n+1,.gI l sz m k=>match b[l]? with
  | some (.dyn e k7 c xs)=>(match Nat.beq sz k7 with
   | true=>.sl k7 c λ_=>((xs ()).take (k ())).drop (m ())
   | false=>.gI l sz m k)
  | _=>.gI l sz m k
 | n+1,.ptr l off=>match b[l]? with
  | some (.fix e cs)=>.dC (cs.map (jK b n)) off
  | _=>.ptr l off
 | n+1,.eV l=>match b[l]? with
  | some (.map k c m)=>.mp k c m
  | _=>.eV l
 | n+1,.fn f xs ys=>.fn f (xs.map (jK b n)) (ys.map (jK b n))
 | n+1,.agg cs=>.agg (cs.map (jK b n))
 | n+1,.dE cs=>.dE (cs.map (jK b n))
 | n+1,x=>x
def view (b:List Slot):SV->SV:=jK b 4
mutual
def SV.scalar:SV->Bool
 | .bc _|.b _|.ic ..|.i ..|.str _=>true
 | .dE cs=>GH cs
 | .agg cs=>GH cs
 | _=>false
def GH:List SV->Bool
 | []=>true
 | x :: r=>x.scalar&&GH r
end
inductive eS:Type 1 where
 | fail
 | pure (x:SV) (u:List (Nat × Slot))
 | lQ (p:Unit->Prop) (x:SV) (u:List (Nat × Slot))
 | ex (T:Type) (p:T->Prop) (x:T->SV) (u:T->List (Nat × Slot))
def eS.K:eS->(SV->List (Nat × Slot)->Prop)->Prop
 | .fail,_=>False
 | .pure x u,k=>k x u
 | .lQ p x u,k=>AJ p/\k x u
 | .ex T p x u,k=>∃t,AJ (λ_=>p t)/\k (x t) (u t)
def mO (b:List Slot):List (Nat × Slot)->List Slot
 | []=>b
 | (l,x) :: r=>mO (b.set l x) r
def St.ga (s:St) (dst:Option Tmp) (x:SV) (u:List (Nat × Slot)):St :=
 { t:=match dst with|some d=>s.t.set d x|none=>s.t,b:=mO s.b u }
def aS (x y:Int):Bool:=decide (x < y)
def cR (x y:Int):Bool:=decide (x<=y)
def aV (x y:Int):Bool:=x == y
def lB (op:BinOp) (k:IntKind) (x y:Int):Int :=
 k.wrap (match op with
  | .and=>(BitVec.ofInt k.bits x &&& BitVec.ofInt k.bits y).toNat
  | .or=>(BitVec.ofInt k.bits x ||| BitVec.ofInt k.bits y).toNat
  | .xor=>(BitVec.ofInt k.bits x ^^^ BitVec.ofInt k.bits y).toNat
  | _=>(BitVec.ofInt k.bits x &&& ~~~ BitVec.ofInt k.bits y).toNat:Nat)
def Pr:SV->SV->Option (Unit->Bool)
 | .bc a,.bc b=>some λ_=>a == b
 | .bc a,.b y=>some λ_=>a == y ()
 | .b x,.bc b=>some λ_=>x () == b
 | .b x,.b y=>some λ_=>x () == y ()
 | .ic k a,.ic k' b=>if k=k' then some λ_=>a == b else none
 | .ic k a,.i k' y=>if k=k' then some λ_=>a == y () else none
 | .i k x,.ic k' b=>if k=k' then some λ_=>x () == b else none
 | .i k x,.i k' y=>if k=k' then some λ_=>x () == y () else none
 | .str x,.str y=>some λ_=>x () == y ()
 | _,_=>none
def B8:List SV->List SV->Option (Unit->Bool)
 | [],[]=>some λ_=>true
 | x :: xs,y :: ys=>match Pr x y,B8 xs ys with
  | some f,some g=>some λ_=>f ()&&g ()
  | _,_=>none
 | _,_=>none
def GX (op:BinOp) (k:IntKind) (a b:Int):eS :=
 match op with
 | .add=>.pure (.ic k (k.wrap (a+b))) []
 | .sub=>.pure (.ic k (k.wrap (a - b))) []
 | .mul=>.pure (.ic k (k.wrap (a*b))) []
 | .eql=>.pure (.bc (aV a b)) []
 | .neq=>.pure (.bc (!aV a b)) []
 | .lss=>.pure (.bc (aS a b)) []
 | .leq=>.pure (.bc (cR a b)) []
 | .gtr=>.pure (.bc (aS b a)) []
 | .geq=>.pure (.bc (cR b a)) []
 | _=>.fail
def BW (op:BinOp) (k:IntKind) (x y:Unit->Int):eS :=
 match op with
 | .add=>.pure (.i k λ_=>k.wrap (x ()+y ())) []
 | .sub=>.pure (.i k λ_=>k.wrap (x () - y ())) []
 | .mul=>.pure (.i k λ_=>k.wrap (x ()*y ())) []
 | .quo=>.lQ (λ_=>y ()≠0) (.i k λ_=>k.wrap ((x ()).tdiv (y ()))) []
 | .rem=>.lQ (λ_=>y ()≠0) (.i k λ_=>(x ()).tmod (y ())) []
 | .and=>.pure (.i k λ_=>lB .and k (x ()) (y ())) []
 | .or=>.pure (.i k λ_=>lB .or k (x ()) (y ())) []
 | .xor=>.pure (.i k λ_=>lB .xor k (x ()) (y ())) []
 | .andNot=>.pure (.i k λ_=>lB .andNot k (x ()) (y ())) []
 | .eql=>.pure (.b λ_=>aV (x ()) (y ())) []
 | .neq=>.pure (.b λ_=>!aV (x ()) (y ())) []
 | .lss=>.pure (.b λ_=>aS (x ()) (y ())) []
 | .leq=>.pure (.b λ_=>cR (x ()) (y ())) []
 | .gtr=>.pure (.b λ_=>aS (y ()) (x ())) []
 | .geq=>.pure (.b λ_=>cR (y ()) (x ())) []
 | _=>.fail
def yA (x y:ByteArray):Bool:=Op.bytesLess x.toList y.toList
def yL (x y:ByteArray):Bool:=x.toList == y.toList
def DY:BinOp->Bool
 | .shl|.shr=>true
 | _=>false
def anT:BinOp->Bool
 | .add|.sub|.mul|.eql|.neq|.lss|.leq|.gtr|.geq=>true
 | _=>false
def Ue:SV->SV->Option (Unit->Prop)
 | .sl sz c xs,.di=>some λ_=>xs ()=[]
 | .di,.sl sz c xs=>some λ_=>xs ()=[]
 | .own _,.di=>some λ_=>True
 | .di,.own _=>some λ_=>True
 | _,_=>none
def Uf:SV->SV->Option (Bool × (Unit->Prop))
 | .v a,.v b=>some (true,λ_=>a ()=.map none/\b ()=.map none)
 | .mp k c m,.v b=>some (false,λ_=>b ()=.map none/\∃n,m () n≠none)
 | .v a,.mp k c m=>some (false,λ_=>a ()=.map none/\∃n,m () n≠none)
 | _,_=>none
def Ps (
     X:Ctx) (op:BinOp) (t:TypeId) (x y:SV):eS :=
 match DY op with
 | true=>match x.lD,y.lD with
  | some (k,m),some (_,n) =>
   .lQ (λ_=>0<=n ()) (.i k λ_=>match op with
    | .shl=>k.wrap (m ()*2^(min (n ()).toNat k.bits))
    | _=>(m ()).fdiv (2^(min (n ()).toNat k.bits))) []
  | _,_=>.fail
 | false=>match anT op,x,y with
  | true,.ic k a,.ic k' b=>if k=k' then GX op k a b else .fail
  | _,x,y=>match x.lD,y.lD with
   | some (k,m),some (k',n)=>if k=k' then BW op k m n else .fail
   | _,_ =>
        match x,y with
    | .str m,.str n=>match op with
     | .add=>.lQ (λ_=>(m ()).size+(n ()).size < 9223372036854775808) (.str λ_=>m ()++n ()) []
     | .eql=>.pure (.b λ_=>yL (m ()) (n ())) []
     | .neq=>.pure (.b λ_=>!yL (m ()) (n ())) []
     | .lss=>.pure (.b λ_=>yA (m ()) (n ())) []
     | .leq=>.pure (.b λ_=>yA (m ()) (n ())||yL (m ()) (n ())) []
     | .gtr=>.pure (.b λ_=>!(yA (m ()) (n ())||yL (m ()) (n ()))) []
     | .geq=>.pure (.b λ_=>!yA (m ()) (n ())) []
     | _=>.fail
    | .agg cs,.agg ds=>match X.tt t with
     | some i=>if i.flat&&cs.length == i.size&&ds.length == i.size then match B8 cs ds,B8 cs (i.zero.cells.toList.map mb) with
       | some f,some _=>match op with
        | .eql=>.pure (.b f) []
        | .neq=>.pure (.b λ_=>!f ()) []
        | _=>.fail
       | _,_=>.fail
      else .fail
     | none=>.fail
    | x,y=>match X.tt t with
     | some i=>match i.d with
      | .bool=>match Pr x y,x.HR,y.HR with
       | some f,some _,some _=>match op with
        | .eql=>.pure (.b f) []
        | .neq=>.pure (.b λ_=>!f ()) []
        | _=>.fail
       | _,_,_=>.fail
      | .map _ _=>match Uf x y with
       | some (d,p)=>match op with
        | .eql=>.lQ p (.bc d) []
        | .neq=>.lQ p (.bc (!d)) []
        | _=>.fail
       | none=>.fail
      | .sl _=>match Ue x y with
       | some p=>match op with
        | .eql=>.pure (.nb true p) []
        | .neq=>.pure (.nb false p) []
        | _=>.fail
       | none=>match x,y,op with
        | .di,.di,.eql=>.pure (.bc true) []
        | .di,.di,.neq=>.pure (.bc false) []
        | _,_,_=>.fail
      | _=>.fail
     | none=>.fail
def Qh (op:UnOp) (x:SV):eS :=
 match op,x with
 | .not,.bc c=>.pure (.bc (!c)) []
 | .not,.b x=>.pure (.b λ_=>!x ()) []
 | .not,.nb d p=>.pure (.nb (!d) p) []
 | .neg,.ic k n=>.pure (.ic k (k.wrap (0 - n))) []
 | .neg,.i k n=>.pure (.i k λ_=>k.wrap (0 - n ())) []
 | _,_=>.fail
def OM (c a b:SV):eS :=
 match c with
 | .bc true=>.pure a []
 | .bc false=>.pure b []
 | .b x=>match a.HR,b.HR with
  | some f,some g=>.pure (.b λ_=>if x () then f () else g ()) []
  | _,_=>.fail
 | _=>.fail
def ON (X:Ctx) (src dst:TypeId) (x:SV):eS :=
 match X.tt src,X.tt dst with
 | some i,some j=>match j.d,x with
  | .int k,.ic _ n=>.pure (.ic k (k.wrap n)) []
  | .int k,.i _ n=>.pure (.i k λ_=>k.wrap (n ())) []
  | .str,.str x=>.pure (.str x) []
  | _,_=>.fail
 | _,_=>.fail
def vL (i:TI) (cs:List SV) (off:Nat):Option SV :=
 if off+i.size<=cs.length then
  if i.agg then some (.agg ((cs.drop off).take i.size)) else cs[off]?
 else none
def Es (X:Ctx) (b:List Slot) (t:TypeId) (x:SV):eS :=
 match X.tt t with
 | none=>.fail
 | some i=>match x with
  | .ptr l off=>match b[l]? with
   | some (.fix e cs)=>match vL i cs off with
    | some v=>.pure v []
    | none=>.fail
   | _=>.fail
  | .dC cs off=>match vL i cs off with
   | some v=>.pure v []
   | none=>.fail
  | .gZ l sz j off=>match b[l]? with
   | some (@Slot.dyn T e k7 c xs)=>if sz=k7 then
     .ex T (λx=>(xs ())[j ()]?=some x/\(vL i (c x) off).isSome=true) (λx=>(vL i (c x) off).getD .any) (λ_=>[])
    else .fail
   | _=>.fail
  | _=>.fail
def sC:List SV->Nat->List SV->List SV
 | cs,_,[]=>cs
 | cs,o,x :: xs=>sC (cs.set o x) (o+1) xs
def BY (
      X:Ctx) (b:List Slot) (t:TypeId) (x y:SV):eS :=
 match X.tt t,y.cells? with
 | some i,some ys=>if ys.length=i.size then match x with
  | .ptr l off=>match b[l]? with
   | some (.fix e cs)=>if off+i.size<=cs.length then .pure .any [(l,.fix e (sC cs off ys))] else .fail
   | _=>.fail
  | .gZ l sz j off=>match b[l]? with
   | some (@Slot.dyn T e k7 c xs)=>if sz=k7/\off+i.size<=sz then
     .ex (T × T) (λp=>(xs ())[j ()]?=some p.1/\(c p.2).length=sz/\dT (sC (c p.1) off ys) (c p.2)) (λ_=>.any)
      (λp=>[(l,.dyn e k7 c λ_=>(xs ()).set (j ()) p.2)])
    else .fail
   | _=>.fail
  | _=>.fail
  else .fail
 | _,_=>.fail
def I2 (X:Ctx) (t:TypeId) (x:SV) (j:Nat):eS :=
 match X.tt t with
 | some i=>match i.d with
  | .st fs=>match fs[j]? with
   | some (_,o,_)=>match x with
    | .ptr l off=>.pure (.ptr l (off+o)) []
    | .dC cs off=>.pure (.dC cs (off+o)) []
    | .gZ l sz k off=>.pure (.gZ l sz k (off+o)) []
    | _=>.fail
   | none=>.fail
  | _=>.fail
 | none=>.fail
def Bx (X:Ctx) (b:List Slot) (t:TypeId) (x ix:SV):eS :=
 match X.tt t with
 | none=>.fail
 | some i =>
       match i.d with
  | .arr n e=>match X.tt e,ix with
   | some j,.ic k m=>if 0<=m/\m.toNat < n then match x with
    | .ptr l off=>.pure (.ptr l (off+m.toNat*j.size)) []
    | .dC cs off=>.pure (.dC cs (off+m.toNat*j.size)) []
    | .gZ l sz p off=>.pure (.gZ l sz p (off+m.toNat*j.size)) []
    | _=>.fail
    else .fail
   | some j,.i k m=>(match x with
    | .ptr l off=>.ex Nat (λg=>m ()=(g:Int)/\g < n) (λg=>.ptr l (off+g*j.size)) (λ_=>[])
    | .dC cs off=>.ex Nat (λg=>m ()=(g:Int)/\g < n) (λg=>.dC cs (off+g*j.size)) (λ_=>[])
    | .gZ l sz p off=>.ex Nat (λg=>m ()=(g:Int)/\g < n) (λg=>.gZ l sz p (off+g*j.size)) (λ_=>[])
    | _=>.fail)
   | _,_=>.fail
  | .sl e=>match X.tt e,ix.lD with
   | some j,some (k,m)=>match x with
    | @SV.sl T sz c xs=>if sz=j.size then
      .ex T (λy=>0<=m ()/\(xs ())[(m ()).toNat]?=some y) (λy=>.dC (c y) 0) (λ_=>[])
     else .fail
    | .own l=>match b[l]? with
     | some (.dyn e' sz c xs)=>if sz=j.size then
       .lQ (λ_=>0<=m ()/\(m ()).toNat < (xs ()).length) (.gZ l sz (λ_=>(m ()).toNat) 0) []
      else .fail
     | _=>.fail
    | .gI l sz g h=>match b[l]? with
     | some (.dyn e' k7 c xs)=>if sz=j.size then
       .lQ (λ_=>0<=m ()/\(m ()).toNat < h () - g ()) (.gZ l sz (λ_=>g ()+(m ()).toNat) 0) []
      else .fail
     | _=>.fail
    | .eH cs n=>match ix with
     | .ic _ m=>if 0<=m/\m.toNat < n/\cs.length=n*j.size then .pure (.dC ((cs.drop (m.toNat*j.size)).take j.size) 0) [] else .fail
     | .i _ m=>match X.el e with
      | some E=>.ex (E.T × List E.T) (λy=>dT cs (y.2.flatMap E.c)/\y.2.length=n/\0<=m ()/\y.2[(m ()).toNat]?=some y.1) (λy=>.dC (E.c y.1) 0) (λ_=>[])
      | none=>.fail
     | _=>.fail
    | _=>.fail
   | _,_=>.fail
  | _=>.fail
def Ob (X:Ctx) (t:TypeId) (x ix:SV):eS :=
 match X.tt t with
 | none=>.fail
 | some i=>match i.d,x with
  | .str,.str s=>match ix.lD with
   | some (k,m)=>.lQ (λ_=>0<=m ()/\(m ()).toNat < (s ()).size) (.i .u8 λ_=>((s ()).data.toList.getD (m ()).toNat 0).toNat) []
   | none=>.fail
  | .arr n e,.agg cs=>match X.tt e,ix with
   | some j,.ic k m=>if 0<=m/\m.toNat < n/\n*j.size=cs.length then match vL j cs (m.toNat*j.size) with
     | some v=>.pure v []
     | none=>.fail
    else .fail
   | some j,.i k m=>if n*j.size=cs.length then
     .ex Nat (λg=>m ()=(g:Int)/\g < n/\(vL j cs (g*j.size)).isSome=true) (λg=>(vL j cs (g*j.size)).getD .any) (λ_=>[])
    else .fail
   | _,_=>.fail
  | _,_=>.fail
def Et (place:Nat->Option (Nat × Nat)):List (Nat × SV)->List SV->Option (List SV)
 | [],cs=>some cs
 | (j,x) :: r,cs=>match place j,x.cells? with
  | some (off,size),some ys=>if ys.length=size/\off+ys.length<=cs.length then Et place r (sC cs off ys) else none
  | _,_=>none
def Oc (X:Ctx) (t:TypeId) (parts:List (Nat × SV)):eS :=
 match X.tt t with
 | none=>.fail
 | some i=>match i.d with
  | .st fs=>match Et (λj=>(fs[j]?).map (·.2)) parts (i.zero.cells.toList.map mb) with
   | some cs=>.pure (.agg cs) []
   | none=>.fail
  | .arr n e=>match X.tt e with
   | some k=>match Et (λj=>some (j*k.size,k.size)) parts (i.zero.cells.toList.map mb) with
    | some cs=>.pure (.agg cs) []
    | none=>.fail
   | none=>.fail
  | _=>.fail
def vS {α:Type 1} (xs:List α):Nat->List α
 | 0=>[]
 | n+1=>xs++vS xs n
def IX (X:Ctx) (l:Nat) (t:TypeId) (n:Nat) (parts:List (Nat × SV)):eS :=
 match X.tt t with
 | none=>.fail
 | some i =>
       match i.d with
  | .sl e=>match X.tt e with
   | none=>.fail
   | some k=>match n with
    | 0=>match parts,X.el e with
     | [],some E=>match X.emp t with
      | false=>.pure (.own l) [(l,.dyn e k.size E.c λ_=>[])]
      | true=>.pure (.sl k.size E.c λ_=>[]) []
     | _,_=>.fail
    | n+1=>if (n+1)*k.size<=16777216 then
      match Et (λj=>some (j*k.size,k.size)) parts (vS (k.zero.cells.toList.map mb) (n+1)) with
      | some cs=>match X.row t with
       | false=>.pure (.eH cs (n+1)) []
       | true=>match X.el e with
        | some E=>.ex (List E.T) (λys=>dT cs (ys.flatMap E.c)/\ys.length=n+1) (λ_=>.own l) (λys=>[(l,.dyn e k.size E.c λ_=>ys)])
        | none=>.fail
      | none=>.fail
     else .fail
  | _=>.fail
def I4 (X:Ctx) (l:Nat) (t:TypeId) (len cap:SV):eS :=
 match X.tt t with
 | none=>.fail
 | some i=>match i.d with
  | .sl e=>match X.tt e,X.el e,len.lD,cap.lD with
   | some k,some E,some (_,n),some (_,m) =>
    .lQ (λ_=>0<=n ()/\n ()<=m ()/\(k.bytes:Int)*m ()<=281474976710656/\m ()<=9223372036854775807) (.own l)
     [(l,.dyn e k.size E.c λ_=>List.replicate (n ()).toNat E.z)]
   | _,_,_,_=>.fail
  | _=>.fail
def top (b:List Slot):SV->SV
 | .own l=>match b[l]? with
  | some (.dyn e sz c xs)=>.sl sz c xs
  | _=>.own l
 | .gI l sz m k=>match b[l]? with
  | some (.dyn e k7 c xs)=>(match Nat.beq sz k7 with
   | true=>.sl k7 c λ_=>((xs ()).take (k ())).drop (m ())
   | false=>.gI l sz m k)
  | _=>.gI l sz m k
 | x=>x
def B9 (X:Ctx) (b:List Slot) (t:TypeId) (s x:SV):eS :=
 match X.tt t with
 | none=>.fail
 | some i =>
       match i.d with
  | .sl e=>match X.tt e,s with
   | some k,.own l0=>match b[l0]? with
    | some (@Slot.dyn T e' sz c xs)=>if e'=e/\sz=k.size/\sz=1 then
      .ex (List T) (λys=>Le (top b x) (.sl sz c λ_=>ys)) (λys=>.i .i64 λ_=>((min (xs ()).length ys.length:Nat):Int))
       (λys=>[(l0,.dyn e sz c λ_=>ys.take (xs ()).length++(xs ()).drop ys.length)])
     else .fail
    | _=>.fail
   | _,_=>.fail
  | _=>.fail
def BZ (
      X:Ctx) (b:List Slot) (t:TypeId) (x:SV):eS :=
 match X.tt t with
 | none=>.fail
 | some i =>
       match i.d with
  | .sl e=>match X.tt e,x with
   | some k,.gI l0 sz g h=>match b[l0]? with
    | some (@Slot.dyn T e' k7 c xs)=>if e'=e/\k7=k.size/\sz=1/\k.size=1/\k.agg=false then
      .ex T (λz=>dT (k.zero.cells.toList.map mb) (c z)) (λ_=>.dE [])
       (λz=>[(l0,.dyn e k7 c λ_=>(xs ()).take (g ())++List.replicate (h () - g ()) z++(xs ()).drop (g ()+(h () - g ())))])
     else .fail
    | _=>.fail
   | _,_=>.fail
  | _=>.fail
def HS (g:Int->Int->Int) (x y:SV):eS :=
 match x.lD,y.lD with
 | some (k,m),some (k',n)=>if k=k' then .pure (.i k λ_=>g (m ()) (n ())) [] else .fail
 | _,_=>.fail
def Hm (g:Int->Int->Int) (x y z:SV):eS :=
 match x.lD,y.lD,z.lD with
 | some (k,m),some (k',n),some (k'',p)=>if k=k'/\k=k'' then .pure (.i k λ_=>g (g (m ()) (n ())) (p ())) [] else .fail
 | _,_,_=>.fail
def Ag (X:Ctx) (b:List Slot) (l:Nat) (t:TypeId) (s x:SV):eS :=
 match X.tt t with
 | none=>.fail
 | some i =>
       match i.d with
  | .sl e=>match X.tt e with
   | none=>.fail
   | some k=>match s with
    | .own l0=>match b[l0]? with
     | some (@Slot.dyn T e' sz c xs)=>if e'=e/\sz=k.size then
       .ex (List T) (λys=>Le (top b x) (.sl sz c λ_=>ys)/\((xs ()).length+ys.length)*k.bytes<=140737488355328/\(xs ()).length+ys.length<=9223372036854775807)
        (λ_=>.own l) (λys=>[(l0,.dead),(l,.dyn e sz c λ_=>xs ()++ys)])
      else .fail
     | _=>.fail
    | .di=>match X.el e with
     | some E=>.ex (List E.T) (λys=>Le (top b x) (.sl k.size E.c λ_=>ys)/\ys.length*k.bytes<=140737488355328/\ys.length<=9223372036854775807)
        (λ_=>.own l) (λys=>[(l,.dyn e k.size E.c λ_=>ys)])
     | none=>.fail
    | @SV.im T sz c xs=>if sz=k.size then
      .ex (List T) (λys=>Le (top b x) (.sl sz c λ_=>ys)/\((xs ()).length+ys.length)*k.bytes<=140737488355328/\(xs ()).length+ys.length<=9223372036854775807/\ys≠[]/\∀z,(c z).all SV.one=true)
       (λ_=>.own l) (λys=>[(l,.dyn e sz c λ_=>xs ()++ys)])
     else .fail
    | .eH cs (n+1)=>match X.el e,x with
     | some E,.eH ds (m+1)=>.ex (List E.T × List E.T) (λy=>dT cs (y.1.flatMap E.c)/\y.1.length=n+1/\dT ds (y.2.flatMap E.c)/\y.2.length=m+1 /\
        (n+1+(m+1))*k.bytes<=140737488355328/\n+1+(m+1)<=9223372036854775807)
       (λ_=>.own l) (λy=>[(l,.dyn e k.size E.c λ_=>y.1++y.2)])
     | _,_=>.fail
    | _=>.fail
  | _=>.fail
def Ac (
       X:Ctx) (b:List Slot) (l:Nat) (t t':TypeId) (s x:SV):eS :=
 match s with
 | .own l0=>match b[l0]? with
  | some (
      @Slot.dyn T e' sz c xs)=>match X.tt t,X.tt t',x.lD with
   | some i,some i',some (k',n)=>match i.d,i'.d with
    | .sl e,.int _=>match X.tt e with
     | some k=>if e'=e/\sz=k.size/\k.size=1/\k'=.i64 then
       .ex (List T) (λys=>(ys.length:Int)=n ()/\(∀y∈ys,dT (k.zero.cells.toList.map mb) (c y))/\((xs ()).length+ys.length)*k.bytes<=140737488355328/\(xs ()).length+ys.length<=9223372036854775807)
        (λ_=>.own l) (λys=>[(l0,.dead),(l,.dyn e sz c λ_=>xs ()++ys)])
      else .fail
     | none=>.fail
    | _,_=>.fail
   | _,_,_=>.fail
  | _=>.fail
 | _=>.fail
def bound (len:Unit->Nat):Option SV->Option (Unit->Int)
 | none=>some λ_=>len ()
 | some x=>match x.lD with
  | some (_,n)=>some n
  | none=>none
def lower:Option SV->Option (Unit->Int)
 | none=>some λ_=>0
 | some x=>match x.lD with
  | some (_,n)=>some n
  | none=>none
def afU:SV->Bool
 | .di|.own _|.eH ..|.sl ..=>true
 | _=>false
def clip:Option SV->Option SV->Option SV->Bool
 | none,some (.ic _ 0),some (.ic _ 0)=>true
 | _,_,_=>false
def B1 (
      X:Ctx) (b:List Slot) (l:Nat) (t:TypeId) (x:SV) (lo hi mx:Option SV):eS :=
 match X.tt t with
 | none=>.fail
 | some i =>
       match i.d with
  | .sl e=>match X.tt e with
   | none=>.fail
   | some k =>
         if clip lo hi mx&&afU x then
     match X.el e with
     | some E=>.pure (.own l) [(l,.dyn e k.size E.c λ_=>[])]
     | none=>.fail
    else match x,mx with
     | @SV.sl T sz c xs,some z=>if sz=k.size then
       match lo,hi.bind SV.lD,z.lD with
       | none,some (_,n),some (_,m)=>.lQ (λ_=>n ()=(xs ()).length/\m ()=(xs ()).length) (.im sz c xs) []
       | _,_,_=>.fail
      else .fail
     | @SV.sl T sz c xs,none=>if sz=k.size then
       match lower lo,bound (λ_=>(xs ()).length) hi with
       | some m,some n=>.lQ (λ_=>0<=m ()/\m ()<=n ()/\n ()<=(xs ()).length) (.sl sz c λ_=>((xs ()).take (n ()).toNat).drop (m ()).toNat) []
       | _,_=>.fail
      else .fail
     | .own l0,none=>match b[l0]? with
      | some (.dyn e' sz c xs)=>if sz=k.size then
        match lower lo,bound (λ_=>(xs ()).length) hi with
        | some m,some n=>.lQ (λ_=>0<=m ()/\m ()<=n ()/\n ()<=(xs ()).length) (.gI l0 k.size (λ_=>(m ()).toNat) (λ_=>(n ()).toNat)) []
        | _,_=>.fail
       else .fail
      | _=>.fail
     | .gI l0 sz g h,none=>match b[l0]? with
      | some (.dyn e' k7 c xs)=>if sz=k.size then
        match lower lo,bound (λ_=>h () - g ()) hi with
        | some m,some n=>.lQ (λ_=>0<=m ()/\m ()<=n ()/\(n ()).toNat<=h () - g ()) (.gI l0 k.size (λ_=>g ()+(m ()).toNat) (λ_=>g ()+(n ()).toNat)) []
        | _,_=>.fail
       else .fail
      | _=>.fail
     | .eH cs n,none=>match X.el e with
      | some E=>match lower lo,bound (λ_=>n) hi with
       | some m,some h=>.ex (List E.T) (λl=>l.length=n/\dT cs (l.flatMap E.c)/\0<=m ()/\m ()<=h ()/\h ()<=n)
         (λl=>.sl k.size E.c λ_=>(l.take (h ()).toNat).drop (m ()).toNat) (λ_=>[])
       | _,_=>.fail
      | none=>.fail
     | _,_=>.fail
  | .str=>match x,mx with
   | .str s,none=>match lower lo,bound (λ_=>(s ()).size) hi with
    | some m,some n=>.lQ (λ_=>0<=m ()/\m ()<=n ()/\n ()<=(s ()).size) (.str λ_=>(s ()).extract (m ()).toNat (n ()).toNat) []
    | _,_=>.fail
   | _,_=>.fail
  | .arr n e=>match X.tt e,X.el e with
   | some k,some E=>match x,mx with
    | .dC cs off,none=>match lower lo,bound (λ_=>n) hi with
     | some m,some h=>.ex (List E.T) (λl=>l.length=n/\dT ((cs.drop off).take (n*k.size)) (l.flatMap E.c)/\0<=m ()/\m ()<=h ()/\h ()<=n)
       (λl=>.sl k.size E.c λ_=>(l.take (h ()).toNat).drop (m ()).toNat) (λ_=>[])
     | _,_=>.fail
    | _,_=>.fail
   | _,_=>.fail
  | _=>.fail
def EJ (X:Ctx) (b:List Slot) (t:TypeId) (x:SV):eS :=
 match X.tt t with
 | none=>.fail
 | some i=>match i.d,x with
  | .str,.str s=>.pure (.i .i64 λ_=>(s ()).size) []
  | .arr n _,_=>.pure (.ic .i64 n) []
  | .sl _,.di=>.pure (.ic .i64 0) []
  | .sl _,.eH _ n=>.pure (.ic .i64 n) []
  | .sl _,.sl sz c xs=>.pure (.i .i64 λ_=>(xs ()).length) []
  | .sl _,.im sz c xs=>.pure (.i .i64 λ_=>(xs ()).length) []
  | .sl _,.own l=>match b[l]? with
   | some (.dyn e sz c xs)=>.pure (.i .i64 λ_=>(xs ()).length) []
   | _=>.fail
  | .sl _,.gI l sz m k=>match b[l]? with
   | some (.dyn e k7 c xs)=>.pure (.i .i64 λ_=>((k () - m ():Nat):Int)) []
   | _=>.fail
  | .map _ _,.mp k c m=>.ex (List k.T) (λks=>ks.Nodup/\∀n,n∈ks↔(m () n).isSome=true) (λks=>.i .i64 λ_=>ks.length) (λ_=>[])
  | .map _ _,.eV l=>match b[l]? with
   | some (.map k c m)=>.ex (List k.T) (λks=>ks.Nodup/\∀n,n∈ks↔(m () n).isSome=true) (λks=>.i .i64 λ_=>ks.length) (λ_=>[])
   | _=>.fail
  | _,_=>.fail
def Od (X:Ctx) (t:TypeId) (x:SV) (j:Nat):eS :=
 match X.tt t,x with
 | some i,.agg cs=>match i.d with
  | .st fs=>match fs[j]? with
   | some (ft,o,_)=>match X.tt ft with
    | some k=>match vL k cs o with
     | some v=>.pure v []
     | none=>.fail
    | none=>.fail
   | none=>.fail
  | _=>.fail
 | _,_=>.fail
def adm (X:Ctx) (vt:TypeId) (vi:TI):Option (Σ T:Type,T->List SV):=match vi.d with
 | .bool=>some ⟨Unit,λ_=>[.bc true]⟩
 | _=>match X.el vt with
  | some E=>match vi.agg with
   | true=>some ⟨E.T,λt=>[.agg (E.c t)]⟩
   | false=>some ⟨E.T,E.c⟩
  | none=>none
def TI.key (i:TI):Option KD:=match i.d with
 | .int k=>some (.int k)
 | _=>match i.kd with
  | some ks=>some (.ints ks)
  | none=>none
def EK:List IntKind->List SV->Option (Unit->List Int)
 | [],[]=>some λ_=>[]
 | k :: ks,x :: xs=>match x.lD,EK ks xs with
  | some (k',n),some f=>if k'=k then some (λ_=>n () :: f ()) else none
  | _,_=>none
 | _,_=>none
def KD.key:(k:KD)->SV->Option (Unit->k.T)
 | .int k,x=>match x.lD with
  | some (k',n)=>if k'=k then some n else none
  | none=>none
 | .ints ks,.agg cs=>EK ks cs
 | .ints _,_=>none
def Kv:Nat->List IntKind->List Int->List SV
 | _,[],_=>[]
 | j,k :: ks,l=>.i k (λ_=>l.getD j 0) :: Kv (j+1) ks l
def KD.sv:(k:KD)->k.T->SV
 | .int k,n=>.i k (λ_=>n)
 | .ints ks,l=>.agg (Kv 0 ks l)
def Jr (X:Ctx) (l:Nat) (t:TypeId):eS :=
 match X.tt t with
 | none=>.fail
 | some i=>match i.d with
  | .map kt vt=>match X.tt kt,X.tt vt with
   | some ki,some vi=>match ki.key,adm X vt vi with
    | some k,some E=>.pure (.eV l) [(l,.map k E.2 λ_ _=>none)]
    | _,_=>.fail
   | _,_=>.fail
  | _=>.fail
def NT {T:Type} (z:Value) (c:T->List SV) (b:Unit->Bool):Option (Option T)->SV
 | none=>.b b
 | some (some t)=>(c t).headD .any
 | some none=>AW z
def JQ {T:Type} (b:Unit->Bool):Option (Option T)->SV
 | none=>.b b
 | some (some _)=>.bc true
 | some none=>.bc false
def aet {T:Type} (z:Value) (c:T->List SV) (r:Option T):Option (Option T)->Prop
 | none=>z=.bool false/\∀t,c t=[.bc true]
 | some o=>r=o
def Ug {T K:Type} (z:Value) (c:T->List SV) (m:Unit->K->Option T) (n:Unit->K) (ok:Bool):eS :=
 .ex (Option (Option T)) (λo=>aet z c (m () (n ())) o)
  (λo=>match ok with
   | true=>.dE [NT z c (λ_=>(m () (n ())).isSome) o,JQ (λ_=>(m () (n ())).isSome) o]
   | false=>NT z c (λ_=>(m () (n ())).isSome) o) (λ_=>[])
def D7 (X:Ctx) (b:List Slot) (t:TypeId) (x ix:SV) (ok:Bool):eS :=
 match X.tt t with
 | none=>.fail
 | some i =>
       match i.d with
  | .map kt vt=>match X.tt kt,X.tt vt with
   | some ki,some vi=>match ki.key with
    | some kk=>match x with
     | .mp k c m=>if k=kk then match k.key ix with
       | some n=>Ug vi.zero c m n ok
       | none=>.fail
      else .fail
     | .eV l=>match b[l]? with
      | some (.map k c m)=>if k=kk then match k.key ix with
        | some n=>Ug vi.zero c m n ok
        | none=>.fail
       else .fail
      | _=>.fail
     | .v x=>match kk.key ix with
      | some n=>.ex Unit (λ_=>x ()=.map none) (λ_=>match ok with|true=>.dE [AW vi.zero,.bc false]|false=>AW vi.zero) (λ_=>[])
      | none=>.fail
     | _=>.fail
    | none=>.fail
   | _,_=>.fail
  | _=>.fail
def zV (
        X:Ctx) (b:List Slot) (t:TypeId) (x ix y:SV):eS :=
 match X.tt t with
 | none=>.fail
 | some i =>
       match i.d with
  | .map kt vt=>match X.tt kt with
   | some ki=>match ki.key with
    | some kk=>match x with
     | .eV l=>match b[l]? with
      | some (@Slot.map T k c m)=>if k=kk then match k.key ix with
        | some n=>.ex T (λt=>dT [y] (c t)) (λ_=>.any) (λt=>[(l,.map k c λ_=>k.ga (m ()) (n ()) t)])
        | none=>.fail
       else .fail
      | _=>.fail
     | _=>.fail
    | none=>.fail
   | none=>.fail
  | _=>.fail
def Eh (b:List Slot) (x:SV):eS :=
 match x with
 | .ptr l 0=>match b[l]? with
  | some (.iter k c m seen (some (n,t)))=>.pure (.dE (k.sv n :: c t)) []
  | _=>.fail
 | _=>.fail
def JR (X:Ctx) (l:Nat) (t:TypeId) (x:SV):eS :=
 match X.tt t with
 | none=>.fail
 | some i=>match i.d,x with
  | .map _ _,.mp k c m=>.pure (.ptr l 0) [(l,.iter k c m (λ_=>[]) none)]
  | _,_=>.fail
def SV.i_:SV->Bool
 | .ptr ..|.gZ ..|.own _|.gI ..|.eV _|.iq _=>true
 | .agg cs=>cs.any λ|.ptr ..|.gZ ..|.own _|.gI ..|.eV _|.iq _=>true|.fn ..|.nT ..|.agg _|.dE _|.dC ..|.eH ..=>true|_=>false
 | .dE _|.fn ..|.nT ..|.dC ..|.eH ..=>true
 | _=>false
mutual
def SV.lb:SV->Bool
 | .ptr ..|.gZ ..|.own _|.gI ..|.eV _|.iq _=>true
 | .fn _ xs ys=>sU xs||sU ys
 | .agg cs=>sU cs
 | .dE cs=>sU cs
 | .eH cs _=>sU cs
 | .dC cs _=>sU cs
 | _=>false
def sU:List SV->Bool
 | []=>false
 | x :: r=>x.lb||sU r
end
mutual
def kV:SV->SV
 | .ptr ..|.gZ ..|.own _|.gI ..|.eV _|.iq _=>.cell
 | .agg cs=>.agg (yE cs)
 | .dE cs=>.dE (yE cs)
 | .fn f xs ys=>.fn f (yE xs) (yE ys)
 | x=>x
def yE:List SV->List SV
 | []=>[]
 | x :: r=>kV x :: yE r
end
def G7 (X:Ctx) (b:List Slot) (f:FuncId) (args:List SV):eS :=
 match X.sp f with
 | none=>.fail
 | some S=>if args.any SV.i_ then
   .ex S.α (λa=>(dT (args.map (view b)) (S.args a)/\((S.res a).scalar||(S.fr||!sU args))=true\/dT (yE args) (S.args a))/\S.pre a) S.res (λ_=>[])
  else .ex S.α (λa=>dT args (S.args a)/\S.pre a) S.res (λ_=>[])
def BL (X:Ctx) (b:List Slot) (l:Nat) (bi:Builtin) (ts:List TypeId) (xs:List SV):eS :=
 match bi with
 | .len=>match ts,xs with
  | [t],[x]=>EJ X b t x
  | _,_=>.fail
 | .append=>match ts,xs with
  | [t,t'],[x,y]=>if t=t' then Ag X b l t x y else Ac X b l t t' x y
  | _,_=>.fail
 | .copy=>match ts,xs with
  | [t,t'],[x,y]=>if t=t' then B9 X b t x y else .fail
  | _,_=>.fail
 | .clear=>match ts,xs with
  | [t],[x]=>BZ X b t x
  | _,_=>.fail
 | .min=>match xs with
  | [x,y]=>HS min x y
  | [x,y,z]=>Hm min x y z
  | _=>.fail
 | .max=>match xs with
  | [x,y]=>HS max x y
  | [x,y,z]=>Hm max x y z
  | _=>.fail
 | _=>.fail
def eL (X:Ctx) (s:St) (l:Nat):Op->eS
 | .move x|.assign x=>.pure (ev s x) []
 | .pick c a b=>OM (ev s c) (ev s a) (ev s b)
 | .alloc e=>match X.tt e with
  | some i=>.pure (.ptr l 0) [(l,.fix e (i.zero.cells.toList.map mb))]
  | none=>.fail
 | .box e x=>match X.tt e,(ev s x).cells? with
  | some i,some cs=>.pure (.ptr l 0) [(l,.fix e cs)]
  | _,_=>.fail
 | .build t parts=>Oc X t (parts.toList.map λp=>(p.1,ev s p.2))
 | .buildSlice t n parts=>IX X l t n (parts.toList.map λp=>(p.1,ev s p.2))
 | .load t x=>Es X s.b t (ev s x)
 | .store t x y=>BY X s.b t (ev s x) (ev s y)
 | .nilCheck x=>match ev s x with
  | .ptr l off=>.pure (.ptr l off) []
  | .dC cs off=>.pure (.dC cs off) []
  | .fn (.func f) fs cs=>.pure (.fn (.func f) fs cs) []
  | _=>.fail
 | .binOp op t x y _=>Ps X op t (ev s x) (ev s y)
 | .unOp op _ x=>Qh op (ev s x)
 | .convert src dst x=>ON X src dst (ev s x)
 | .makeFunc fn first cap=>.pure (.fn fn (first.toList.map (ev s)) (cap.toList.map (ev s))) []
 | .makeSlice t n m=>I4 X l t (ev s n) (ev s m)
 | .slice t x lo hi mx=>B1 X s.b l t (ev s x) (lo.map (ev s)) (hi.map (ev s)) (mx.map (ev s))
 | .fieldAddr t x j=>I2 X t (ev s x) j
 | .field t x j=>Od X t (ev s x) j
 | .indexAddr t x i=>Bx X s.b t (ev s x) (ev s i)
 | .index t x i=>Ob X t (ev s x) (ev s i)
 | .extract x j=>match ev s x with
  | .dE cs=>match cs[j]? with
   | some v=>.pure v []
   | none=>.fail
  | _=>.fail
 | .makeMap t r=>match r with
  | none=>Jr X l t
  | some _=>.fail
 | .lookup t x i ok=>D7 X s.b t (ev s x) (ev s i) ok
 | .mapUpdate t x i y=>zV X s.b t (ev s x) (ev s i) (ev s y)
 | .insert t x i y=>zV X s.b t (ev s x) (ev s i) (ev s y)
 | .range t x=>JR X l t (ev s x)
 | .entry x=>Eh s.b (ev s x)
 | .call c=>match c.callee with
  | .value g=>match ev s g with
   | .fn (.func f) first cap=>G7 X s.b f (first++c.args.toList.map (ev s)++cap)
   | _=>.fail
  | .builtin bi=>BL X s.b l bi c.argTypes.toList (c.args.toList.map (ev s))
  | _=>.fail
 | _=>.fail
def uH:Op->Bool
 | .store ..|.mapUpdate ..|.insert ..=>true
 | _=>false
def gY:Op->Bool
 | .alloc _|.box ..|.buildSlice ..|.makeSlice ..|.makeMap ..|.range ..=>true
 | .slice _ _ _ _ (some _)=>true
 | .call { callee:=.builtin .append,.. }=>true
 | _=>false
end Go.Vc
