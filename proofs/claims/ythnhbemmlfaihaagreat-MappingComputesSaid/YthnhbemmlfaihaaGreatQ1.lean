import Derived.Test.YthnhbemmlfaihaaGreatQ0
set_option linter.unusedVariables false
set_option linter.unusedSimpArgs false
set_option maxRecDepth 10000
set_option maxHeartbeats 64000000
namespace Go.Vc
open Go
structure zp (p:Unit->Prop):Prop where
 out:p ()
structure zB (x:Unit->Bool):Prop where
 out:x ()=true
structure zC (x:Unit->Bool):Prop where
 out:x ()=false
structure Hyp (p:Unit->Prop):Prop where
 out:p ()
section
variable {η:Nat->Value} {H:bB}
theorem apB {x:Unit->Value} (ho:(SV.v x).one=true):(x ()).oneCell'=true:=by
 unfold SV.one at ho
 simp only at ho
 split at ho<;>first|(rename_i e;rw [e];rfl)|cases ho
theorem y5 {q:Nat->Live} {x:SV} {v:Value} (ho:x.one=true) (h:rel η q H x v):v.oneCell'=true:=by
 cases x<;>first|(have hv:=apB ho;simp only [rel] at h;rw [h];exact hv)|skip
 all_goals (simp [SV.one] at ho)<;>simp only [rel] at h
 case bc=>subst h;rfl
 case b=>subst h;rfl
 case nb=>obtain ⟨c,rfl,_⟩:=h;rfl
 case ic=>subst h;rfl
 case i=>subst h;rfl
 case str=>subst h;rfl
 case cell=>exact h
 case cW=>subst h;rfl
 case ptr l off =>
  split at h
  ·exact h.elim
  ·obtain ⟨x,rfl⟩:=h;rfl
  ·obtain ⟨bl,_,rfl⟩:=h;rfl
 case gz l sz i off =>
  split at h
  ·exact h.elim
  ·obtain ⟨x,rfl⟩:=h;rfl
  ·obtain ⟨bl,n,c,_,rfl⟩:=h;rfl
 case own l =>
  split at h
  ·exact h.elim
  ·obtain ⟨x,n,c,rfl⟩:=h;rfl
  ·obtain ⟨_,x,n,c,rfl⟩:=h;rfl
 case fa l sz m n =>
  split at h
  ·exact h.elim
  ·obtain ⟨x,n,c,rfl⟩:=h;rfl
  ·obtain ⟨x,n,c,rfl⟩:=h.isSlice;rfl
 case eF=>obtain ⟨ad,rfl,_⟩:=h;rfl
 case sl=>obtain ⟨⟨ad,cap,rfl,_⟩,_⟩:=h;rfl
 case dU=>obtain ⟨ad,rfl,_⟩:=h;rfl
 case fn=>obtain ⟨fs,cs,rfl,_⟩:=h;rfl
 case nj=>obtain ⟨y,rfl,_⟩:=h;rfl
 case gH=>obtain ⟨⟨ad,rfl,_⟩,_⟩:=h;rfl
 case mp=>rcases h.1 with ⟨rfl,_⟩|⟨_,_,_,rfl,_⟩<;>rfl
 case gF l =>
  split at h
  ·exact h.elim
  ·obtain ⟨x,rfl⟩:=h;rfl
  ·obtain ⟨_,x,rfl⟩:=h;rfl
 case gP l =>
  split at h
  ·exact h.elim
  ·obtain ⟨x,rfl⟩:=h;rfl
  ·obtain ⟨bl,_,rfl⟩:=h;rfl
end
mutual
inductive Le:SV->SV->Prop
 | refl (x:SV):Le x x
 | any (x:SV):Le x .any
 | cell {x:SV}:x.one=true->Le x .cell
 | b {x y:Unit->Bool}:x ()=y ()->Le (.b x) (.b y)
 | bc {c:Bool} {y:Unit->Bool}:c=y ()->Le (.bc c) (.b y)
 | JV {x:Unit->Bool} {c:Bool}:x ()=c->Le (.b x) (.bc c)
 | i {k:IntKind} {x y:Unit->Int}:x ()=y ()->Le (.i k x) (.i k y)
 | ic {k:IntKind} {n:Int} {y:Unit->Int}:n=y ()->Le (.ic k n) (.i k y)
 | aen {k:IntKind} {x:Unit->Int} {n:Int}:x ()=n->Le (.i k x) (.ic k n)
 | str {x y:Unit->ByteArray}:x ()=y ()->Le (.str x) (.str y)
 | v {x y:Unit->Value}:x ()=y ()->Le (.v x) (.v y)
 | agg {cs ds:List SV}:dF cs ds->Le (.agg cs) (.agg ds)
 | opt {T:Type} {p:T->Prop} {y:SV} {x:T->SV} (t:T):p t->(∀t,LF (x t))->Le y (x t)->Le y (.opt p x)
 | cS {cs ds:List SV}:dF cs ds->Le (.cS cs) (.cS ds)
 | sl {T:Type} {sz:Nat} {c:T->List SV} {xs ys:Unit->List T}:xs ()=ys ()->Le (.sl sz c xs) (.sl sz c ys)
 | slm {T T':Type} {sz:Nat} {c:T->List SV} {c':T'->List SV} {xs:Unit->List T} {ys:Unit->List T'}:(xs ()).length=(ys ()).length->(∀x,cI (c' x)) ->
  (∀(j:Nat) (x:T) (y:T'),(xs ())[j]?=some x->(ys ())[j]?=some y->dF (c x) (c' y))->Le (.sl sz c xs) (.sl sz c' ys)
 | cW {T:Type} {sz:Nat} {c:T->List SV} {ys:Unit->List T}:ys ()=[]->(∀x,cI (c x))->Le .cW (.sl sz c ys)
 | eF {T:Type} {cs:List SV} {n sz:Nat} {c:T->List SV} {ys:Unit->List T}:(ys ()).length=n->(∀y∈ys (),(c y).length=sz)->(∀x,cI (c x)) ->
  dF cs ((ys ()).flatMap c)->Le (.eF cs n) (.sl sz c ys)
 | dU {cs ds:List SV} {off:Nat}:dF cs ds->Le (.dU cs off) (.dU ds off)
 | gz {l sz:Nat} {i j:Unit->Nat} {off:Nat}:i ()=j ()->Le (.gz l sz i off) (.gz l sz j off)
 | fa {l sz:Nat} {m n m' n':Unit->Nat}:m ()=m' ()->n ()=n' ()->Le (.fa l sz m n) (.fa l sz m' n')
 | mp {T:Type} {k:KD} {c:T->List SV} {m m':Unit->k.T->Option T}:m ()=m' ()->Le (.mp k c m) (.mp k c m')
 | gH {T:Type} {sz:Nat} {c:T->List SV} {xs ys:Unit->List T}:xs ()=ys ()->Le (.gH sz c xs) (.gH sz c ys)
 | qu {T:Type} {sz:Nat} {c:T->List SV} {xs ys:Unit->List T}:xs ()=ys ()->Le (.gH sz c xs) (.sl sz c ys)
 | arh {T:Type} {k:KD} {c:T->List SV} {x:Unit->Value} {m:Unit->k.T->Option T}:x ()=.map none->(∀n,m () n=none)->(∀x,cI (c x))->Le (.v x) (.mp k c m)
 | fn {f:Fn} {cs ds zD ds':List SV}:dF cs ds->dF zD ds'->Le (.fn f cs zD) (.fn f ds ds')
inductive dF:List SV->List SV->Prop
 | nil:dF [] []
 | cons {x y:SV} {xs ys:List SV}:Le x y->dF xs ys->dF (x :: xs) (y :: ys)
end
theorem FC {η:Nat->Value} {q:Nat->Live} {H:bB} {s s':List SV} {v:List Value} (h:aQ η q H (s++s') v) :
  aQ η q H s (v.take s.length)/\aQ η q H s' (v.drop s.length):=by
 have h1:=FT h s.length
 have h2:=FR h s.length
 simp only [FL,List.drop_left] at h1 h2
 exact ⟨h1,h2⟩
theorem Ap {η:Nat->Value} {q:Nat->Live} {H:bB} {T:Type} {c:T->List SV} {sz:Nat} :
  ∀{xs:List T} {v:List Value},(∀x∈xs,(c x).length=sz)->aQ η q H (xs.flatMap c) v->∀(j:Nat) (x:T),xs[j]?=some x ->
   aQ η q H (c x) ((v.drop (j*sz)).take sz)
 | [],v,_,_,j,x,hx=>by simp at hx
 | y :: r,v,hl,h,j,x,hx=>by
  have hy:(c y).length=sz:=hl y (by simp)
  rw [qN] at h
  obtain ⟨h1,h2⟩:=FC h
  rw [hy] at h1 h2
  cases j with
  | zero=>simp at hx;subst hx;simpa using h1
  | succ j =>
   have:=Ap (λx hx=>hl x (by simp [hx])) h2 j x (by simpa using hx)
   rw [List.drop_drop] at this
   rw [show (j+1)*sz=sz+j*sz by rw [Nat.add_mul];omega]
   exact this
mutual
theorem vg {η:Nat->Value} {q:Nat->Live} {H:bB}:∀{x y:SV},Le x y->∀{v:Value},rel η q H x v->rel η q H y v
 | _,_,.refl _,_,h=>h
 | _,_,.any _,_,_=>by simp [rel]
 | _,_,.cell h1,_,h=>by simp only [rel];exact y5 h1 h
 | _,_,.b e,_,h=>by simp only [rel] at h ⊢;rw [<-e];exact h
 | _,_,.bc e,_,h=>by simp only [rel] at h ⊢;rw [<-e];exact h
 | _,_,.JV e,_,h=>by simp only [rel] at h ⊢;rw [<-e];exact h
 | _,_,.i e,_,h=>by simp only [rel] at h ⊢;rw [<-e];exact h
 | _,_,.ic e,_,h=>by simp only [rel] at h ⊢;rw [<-e];exact h
 | _,_,.aen e,_,h=>by simp only [rel] at h ⊢;rw [<-e];exact h
 | _,_,.str e,_,h=>by simp only [rel] at h ⊢;rw [<-e];exact h
 | _,_,.v e,_,h=>by simp only [rel] at h ⊢;rw [<-e];exact h
 | _,_,.agg e,_,h=>by
  simp only [rel] at h ⊢
  obtain ⟨vs,h1,h2⟩:=h
  exact ⟨vs,h1,jG e h2⟩
 | _,_,.opt t ht cw e,_,h=>by
  simp only [rel]
  exact ⟨⟨t,ht,vg e h⟩,cw⟩
 | _,_,.cS e,_,h=>by
  simp only [rel] at h ⊢
  obtain ⟨vs,h1,h2⟩:=h
  exact ⟨vs,h1,jG e h2⟩
 | _,_,.sl e,_,h=>by simp only [rel] at h ⊢;rw [<-e];exact h
 | _,_,@Le.slm T T' sz c c' xs ys e1 cw e2,_,h=>by
  simp only [rel] at h ⊢
  obtain ⟨⟨ad,cap,h1,h0,h2⟩,_⟩:=h
  refine ⟨⟨ad,cap,by rw [<-e1];exact h1,by omega,?_⟩,cw⟩
  rcases h2 with h2|⟨a,h3,h4,h5⟩
  ·left;exact iF (by rw [<-e1,h2];rfl)
  ·right
   refine ⟨a,h3,h4,λj y hy=>?_⟩
   have hj:j < (xs ()).length:=by rw [e1];exact (bt.1 hy).1
   obtain ⟨vals,g1,g2,g3⟩:=h5 j _ (eI hj)
   exact ⟨vals,g1,jG (e2 j _ y (eI hj) hy) g2,g3⟩
 | _,_,.cW e cw,_,h=>by simp only [rel] at h ⊢;rw [e];exact ⟨⟨none,0,h,by simp,.inl rfl⟩,cw⟩
 | _,_,@Le.eF T cs n sz c ys e1 e2 cw e3,_,h=>by
  simp only [rel] at h ⊢
  obtain ⟨ad,h1,h2⟩:=h
  refine ⟨⟨ad,n,by rw [e1];exact h1,by omega,?_⟩,cw⟩
  rcases h2 with h2|⟨a,h3,h4,vals,h5,h6⟩
  ·left;exact iF (by omega)
  ·right
   refine ⟨a,h3,h4,λj x hx=>?_⟩
   have h7:=jG e3 h5
   have h8:=Ap e2 h7 j x hx
   refine ⟨_,?_,h8,?_⟩
   ·rw [jn h8];exact e2 x (cB hx)
   ·intro i u hu
    rw [ml] at hu
    split at hu
    ·rw [ky] at hu
     have:=h6 _ u hu
     rwa [<-Nat.add_assoc] at this
    ·cases hu
 | _,_,.dU e,_,h=>by
  simp only [rel] at h ⊢
  obtain ⟨a,h1,vals,h2,h3⟩:=h
  exact ⟨a,h1,vals,jG e h2,h3⟩
 | _,_,.gz e,_,h=>by simp only [rel] at h ⊢;rw [<-e];exact h
 | _,_,.fa e e',_,h=>by simp only [rel] at h ⊢;rw [<-e,<-e'];exact h
 | _,_,.mp e,_,h=>by simp only [rel] at h ⊢;rw [<-e];exact h
 | _,_,.gH e,_,h=>by simp only [rel] at h ⊢;rw [<-e];exact h
 | _,_,.qu e,_,h=>by
  simp only [rel] at h ⊢
  rw [<-e]
  obtain ⟨⟨ad,h1,h2⟩,cw⟩:=h
  exact ⟨⟨ad,_,h1,fq _,h2⟩,cw⟩
 | _,_,.arh e e' cw,_,h=>by simp only [rel] at h ⊢;exact ⟨.inl ⟨h.trans e,e'⟩,cw⟩
 | _,_,.fn e e',_,h=>by
  simp only [rel] at h ⊢
  obtain ⟨fs,cs,h1,h2,h3⟩:=h
  exact ⟨fs,cs,h1,jG e h2,jG e' h3⟩
theorem jG {η:Nat->Value} {q:Nat->Live} {H:bB}:∀{x y:List SV},dF x y->∀{v:List Value},aQ η q H x v->aQ η q H y v
 | _,_,.nil,_,h=>h
 | _,_,.cons e r,_,h=>by
  simp only [aQ] at h ⊢
  obtain ⟨u,us,h1,h2,h3⟩:=h
  exact ⟨u,us,h1,vg e h2,jG r h3⟩
end
inductive TD where
 | int (k:IntKind)
 | bool
 | str
 | sl (e:TypeId)
 | ptr (e:TypeId)
 | st (fs:List (TypeId × Nat × Nat))
 | arr (n:Nat) (e:TypeId)
 | map (k v:TypeId)
 | other
structure TI where
 d:TD
 size:Nat
 bytes:Nat
 zero:Value
 flat:Bool:=false
 kd:Option (List IntKind):=none
def TI.agg (i:TI):Bool:=match i.d with|.st _|.arr _ _=>true|_=>false
def Be:Value->Value->Bool
 | .bool a,.bool b=>a == b
 | .int k a,.int k' b=>a == b
 | .string a,.string b=>a == b
 | _,_=>false
def sO:List Value->List Value->Bool
 | a :: as,b :: bs=>Be a b&&sO as bs
 | _,_=>true
def vf:Value->Value->Bool
 | .bool _,.bool _=>true
 | .int k _,.int k' _=>k == k'
 | .string _,.string _=>true
 | _,_=>false
def qg:List Value->List Value->Bool
 | a :: as,b :: bs=>vf a b&&qg as bs
 | [],[]=>true
 | _,_=>false
structure Bg (P:Program) (kt:TypeId) (k:KD):Prop where
 check:∀(n:k.T),k.ok n->∀em w,(Instr.checkKey em 10000 kt (k.enc n)).run P w=.ok () w
 find:∀(n:k.T),k.ok n->∀(es:List MapEntry),(∀e∈es,∃n',k.ok n'/\e.key=k.enc n')->∀w,
  ((Instr.findKey kt (k.enc n) es).run P w=.ok none w/\∀e∈es,e.key≠k.enc n)\/∃j e,(Instr.findKey kt (k.enc n) es).run P w=.ok (some (j,e.val)) w/\es[j]?=some e/\e.key=k.enc n
 stays:∀(n:k.T),k.ok n->∀w,(Instr.keyThatStays (k.enc n) (k.enc n)).run P w=.ok (k.enc n) w
structure ly (P:Program) (t:TypeId) (i:TI):Prop where
 info:∃inf,P.info? t=some inf/\inf.size=i.size/\inf.bytes=i.bytes/\inf.zero=some i.zero
 zb:i.zero.cells.size=i.size
 pos:0 < i.size
 desc:match i.d with
  | .int k=>P.underlying t=some (.int k)
  | .bool=>P.underlying t=some .bool
  | .str=>P.underlying t=some .string
  | .sl e=>P.underlying t=some (.slice e)
  | .ptr e=>P.underlying t=some (.pointer e)
  | .st gs=>∃fs:Array Field,P.underlying t=some (.struct fs)/\fs.size=gs.length /\
    ∀(j:Nat) (f:Field),fs[j]?=some f->∃inf,P.info? f.type=some inf/\inf.size≠0/\gs[j]?=some (f.type,f.offset,inf.size)
  | .arr n e=>P.underlying t=some (.array n e)
  | .map k v=>P.underlying t=some (.map k v)
  | .other=>∃d,P.underlying t=some d/\(∀x,d≠.struct x)/\(∀n e,d≠.array n e)
 flat:i.flat=true->i.agg=true/\∀(vs us:List Value) (w:World),vs.length=i.size->us.length=i.size ->
  qg vs us=true->qg vs i.zero.cells.toList=true->∀op x y,(op=.eql\/op=.neq) ->
  (do eqGuard op t x y (.agg vs.toArray) (.agg us.toArray);binOp op t (.agg vs.toArray) (.agg us.toArray):Sem Value).run P w =
   .ok (.bool (if op=.eql then sO vs us else !sO vs us)) w
 key:∀ks,i.kd=some ks->Bg P t (.ints ks)
structure gA:Type 1 where
 T:Type
 c:T->List SV
 z:T
structure Spec:Type 1 where
 α:Type
 args:α->List SV
 pre:α->Prop
 res:α->SV
 fr:Bool:=false
structure Ctx:Type 1 where
 tt:TypeId->Option TI
 el:TypeId->Option gA
 sp:FuncId->Option Spec
 inl:FuncId->Option Func
 cut:Nat->Bool:=λ_=>false
 lp:FuncId->Bool:=λ_=>false
 io:FuncId->Bool:=λ_=>false
 row:TypeId->Bool:=λ_=>false
 emp:TypeId->Bool:=λ_=>false
def bB.jh (H:bB) (w:World):Prop:=∀b o,H b=some o->w.heap[b]?=some o
structure lz (P:Program) (f:FuncId) (fn:Func):Prop where
 get:P.funcs[f]?=some fn
 body:fn.body.isSome=true
 name : (fn.name == "runtime.NumGoroutine") = false
structure cR (P:Program) (f:FuncId) (S:Spec):Prop where
 fn:∃fn,lz P f fn
 lf:∀a,cI (S.args a)
 lr:∀a,LF (S.res a)
 run:∀a,S.pre a->∀(H F:bB) (w:World) (vals:List Value),H.jh w->F.jh w->dJ H (S.args a) vals ->
  Calls P f vals.toArray w λe w'=>∃v H',e=.returned v/\H.le H'/\H'.jh w'/\F.jh w' /\
   (∀b,H' b≠none->H b≠none\/F b=none)/\qx H' (S.res a) v/\w'.os=w.os/\w'.tape=w.tape/\w'.output=w.output
 fresh:S.fr=true->∀a,S.pre a->∀(H F:bB) (w:World) (vals:List Value),H.jh w->F.jh w->dJ H (S.args a) vals ->
  Calls P f vals.toArray w λe w'=>∃v N,e=.returned v/\H.jh w'/\F.jh w'/\bB.jh N w'/\(∀b,N b≠none->H b=none/\F b=none)/\qx N (S.res a) v /\
   w'.os=w.os/\w'.tape=w.tape/\w'.output=w.output
structure Bh (P:Program) (X:Ctx) (t:TypeId) (E:gA):Prop where
 ti:∃i,X.tt t=some i
 len:∀i,X.tt t=some i->∀x,(E.c x).length=i.size
 lf:∀x,cI (E.c x)/\(E.c x).all SV.one=true
 zero:∀i,X.tt t=some i->∀H,dJ H (E.c E.z) i.zero.cells.toList
structure Ctx.Ok (P:Program) (X:Ctx):Prop where
 tt:∀t i,X.tt t=some i->ly P t i
 el:∀t E,X.el t=some E->Bh P X t E
 sp:∀f S,X.sp f=some S->cR P f S
 inl:∀f fn,X.inl f=some fn->lz P f fn
 mixed:P.follows .mixedOrders=true
def lA:Value->SV
 | .bool c=>.bc c
 | .int k n=>.ic k n
 | .string s=>.str λ_=>s
 | .slice none 0 0=>.cW
 | v=>.v λ_=>v
def zF:Value->SV
 | .agg cs=>.agg (cs.toList.map lA)
 | v=>lA v
def ev (s:St):Operand->SV
 | .tmp t=>(s.t[t]?).getD .any
 | .const v=>zF v
 | .global g=>.v λ_=>.pointer (some ⟨g,0,none⟩)
 | .func f=>.fn (.func f) [] []
def SV.cells?:SV->Option (List SV)
 | .agg cs=>if cs.all SV.one then some cs else none
 | x=>if x.one then some [x] else none
def SV.Hk:SV->Option (Unit->Bool)
 | .bc c=>some λ_=>c
 | .b x=>some x
 | _=>none
def SV.kJ:SV->Option (IntKind × (Unit->Int))
 | .ic k n=>some (k,λ_=>n)
 | .i k n=>some (k,n)
 | _=>none
def jf (b:List Slot):Nat->SV->SV
 | 0,x=>x
 | n+1,.own l=>match b[l]? with
  | some (.dyn e sz c xs)=>.sl sz c xs
  | _=>.own l
 | n+1,.fa l sz m k=>match b[l]? with
  | some (.dyn e kp c xs)=>(match Nat.beq sz kp with
   | true=>.sl kp c λ_=>((xs ()).take (k ())).drop (m ())
   | false=>.fa l sz m k)
  | _=>.fa l sz m k
 | n+1,.ptr l off=>match b[l]? with
  | some (.fix e cs)=>.dU (cs.map (jf b n)) off
  | _=>.ptr l off
 | n+1,.gF l=>match b[l]? with
  | some (.map k c m)=>.mp k c m
  | _=>.gF l
 | n+1,.fn f xs ys=>.fn f (xs.map (jf b n)) (ys.map (jf b n))
 | n+1,.agg cs=>.agg (cs.map (jf b n))
 | n+1,.cS cs=>.cS (cs.map (jf b n))
 | n+1,x=>x
def view (b:List Slot):SV->SV:=jf b 4
mutual
def SV.scalar:SV->Bool
 | .bc _|.b _|.ic ..|.i ..|.str _=>true
 | .cS cs=>AX cs
 | .agg cs=>AX cs
 | _=>false
def AX:List SV->Bool
 | []=>true
 | x :: r=>x.scalar&&AX r
end
inductive eN:Type 1 where
 | fail
 | pure (x:SV) (u:List (Nat × Slot))
 | mD (p:Unit->Prop) (x:SV) (u:List (Nat × Slot))
 | ex (T:Type) (p:T->Prop) (x:T->SV) (u:T->List (Nat × Slot))
def eN.K:eN->(SV->List (Nat × Slot)->Prop)->Prop
 | .fail,_=>False
 | .pure x u,k=>k x u
 | .mD p x u,k=>zp p/\k x u
 | .ex T p x u,k=>∃t,zp (λ_=>p t)/\k (x t) (u t)
def l8 (b:List Slot):List (Nat × Slot)->List Slot
 | []=>b
 | (l,x) :: r=>l8 (b.set l x) r
def St.jJ (s:St) (dst:Option Tmp) (x:SV) (u:List (Nat × Slot)):St :=
 { t:=match dst with|some d=>s.t.set d x|none=>s.t,b:=l8 s.b u }
def dw (x y:Int):Bool:=decide (x < y)
def gI (x y:Int):Bool:=decide (x<=y)
def eW (x y:Int):Bool:=x == y
def fN (op:BinOp) (k:IntKind) (x y:Int):Int :=
 k.wrap (match op with
  | .and=>(BitVec.ofInt k.bits x &&& BitVec.ofInt k.bits y).toNat
  | .or=>(BitVec.ofInt k.bits x ||| BitVec.ofInt k.bits y).toNat
  | .xor=>(BitVec.ofInt k.bits x ^^^ BitVec.ofInt k.bits y).toNat
  | _=>(BitVec.ofInt k.bits x &&& ~~~ BitVec.ofInt k.bits y).toNat:Nat)
def OF:SV->SV->Option (Unit->Bool)
 | .bc a,.bc b=>some λ_=>a == b
 | .bc a,.b y=>some λ_=>a == y ()
 | .b x,.bc b=>some λ_=>x () == b
 | .b x,.b y=>some λ_=>x () == y ()
 | .ic k a,.ic k' b=>if k=k' then some λ_=>a == b else none
 | .ic k a,.i k' y=>if k=k' then some λ_=>a == y () else none
 | .i k x,.ic k' b=>if k=k' then some λ_=>x () == b else none
 | .i k x,.i k' y=>if k=k' then some λ_=>x () == y () else none
 | .str x,.str y=>some λ_=>x () == y ()
 | _,_=>none
def Bi:List SV->List SV->Option (Unit->Bool)
 | [],[]=>some λ_=>true
 | x :: xs,y :: ys=>match OF x y,Bi xs ys with
  | some f,some g=>some λ_=>f ()&&g ()
  | _,_=>none
 | _,_=>none
def Gg (op:BinOp) (k:IntKind) (a b:Int):eN :=
 match op with
 | .add=>.pure (.ic k (k.wrap (a+b))) []
 | .sub=>.pure (.ic k (k.wrap (a - b))) []
 | .mul=>.pure (.ic k (k.wrap (a*b))) []
 | .eql=>.pure (.bc (eW a b)) []
 | .neq=>.pure (.bc (!eW a b)) []
 | .lss=>.pure (.bc (dw a b)) []
 | .leq=>.pure (.bc (gI a b)) []
 | .gtr=>.pure (.bc (dw b a)) []
 | .geq=>.pure (.bc (gI b a)) []
 | _=>.fail
def A6 (op:BinOp) (k:IntKind) (x y:Unit->Int):eN :=
 match op with
 | .add=>.pure (.i k λ_=>k.wrap (x ()+y ())) []
 | .sub=>.pure (.i k λ_=>k.wrap (x () - y ())) []
 | .mul=>.pure (.i k λ_=>k.wrap (x ()*y ())) []
 | .quo=>.mD (λ_=>y ()≠0) (.i k λ_=>k.wrap ((x ()).tdiv (y ()))) []
 | .rem=>.mD (λ_=>y ()≠0) (.i k λ_=>(x ()).tmod (y ())) []
 | .and=>.pure (.i k λ_=>fN .and k (x ()) (y ())) []
 | .or=>.pure (.i k λ_=>fN .or k (x ()) (y ())) []
 | .xor=>.pure (.i k λ_=>fN .xor k (x ()) (y ())) []
 | .andNot=>.pure (.i k λ_=>fN .andNot k (x ()) (y ())) []
 | .eql=>.pure (.b λ_=>eW (x ()) (y ())) []
 | .neq=>.pure (.b λ_=>!eW (x ()) (y ())) []
 | .lss=>.pure (.b λ_=>dw (x ()) (y ())) []
 | .leq=>.pure (.b λ_=>gI (x ()) (y ())) []
 | .gtr=>.pure (.b λ_=>dw (y ()) (x ())) []
 | .geq=>.pure (.b λ_=>gI (y ()) (x ())) []
 | _=>.fail
def xG (x y:ByteArray):Bool:=Op.bytesLess x.toList y.toList
def xQ (x y:ByteArray):Bool:=x.toList == y.toList
def De:BinOp->Bool
 | .shl|.shr=>true
 | _=>false
def amj:BinOp->Bool
 | .add|.sub|.mul|.eql|.neq|.lss|.leq|.gtr|.geq=>true
 | _=>false
def Td:SV->SV->Option (Unit->Prop)
 | .sl sz c xs,.cW=>some λ_=>xs ()=[]
 | .cW,.sl sz c xs=>some λ_=>xs ()=[]
 | .own _,.cW=>some λ_=>True
 | .cW,.own _=>some λ_=>True
 | _,_=>none
def Te:SV->SV->Option (Bool × (Unit->Prop))
 | .v a,.v b=>some (true,λ_=>a ()=.map none/\b ()=.map none)
 | .mp k c m,.v b=>some (false,λ_=>b ()=.map none/\∃n,m () n≠none)
 | .v a,.mp k c m=>some (false,λ_=>a ()=.map none/\∃n,m () n≠none)
 | _,_=>none
def OG (
     X:Ctx) (op:BinOp) (t:TypeId) (x y:SV):eN :=
 match De op with
 | true=>match x.kJ,y.kJ with
  | some (k,m),some (_,n) =>
   .mD (λ_=>0<=n ()) (.i k λ_=>match op with
    | .shl=>k.wrap (m ()*2^(min (n ()).toNat k.bits))
    | _=>(m ()).fdiv (2^(min (n ()).toNat k.bits))) []
  | _,_=>.fail
 | false=>match amj op,x,y with
  | true,.ic k a,.ic k' b=>if k=k' then Gg op k a b else .fail
  | _,x,y=>match x.kJ,y.kJ with
   | some (k,m),some (k',n)=>if k=k' then A6 op k m n else .fail
   | _,_ =>
        match x,y with
    | .str m,.str n=>match op with
     | .add=>.mD (λ_=>(m ()).size+(n ()).size < 9223372036854775808) (.str λ_=>m ()++n ()) []
     | .eql=>.pure (.b λ_=>xQ (m ()) (n ())) []
     | .neq=>.pure (.b λ_=>!xQ (m ()) (n ())) []
     | .lss=>.pure (.b λ_=>xG (m ()) (n ())) []
     | .leq=>.pure (.b λ_=>xG (m ()) (n ())||xQ (m ()) (n ())) []
     | .gtr=>.pure (.b λ_=>!(xG (m ()) (n ())||xQ (m ()) (n ()))) []
     | .geq=>.pure (.b λ_=>!xG (m ()) (n ())) []
     | _=>.fail
    | .agg cs,.agg ds=>match X.tt t with
     | some i=>if i.flat&&cs.length == i.size&&ds.length == i.size then match Bi cs ds,Bi cs (i.zero.cells.toList.map lA) with
       | some f,some _=>match op with
        | .eql=>.pure (.b f) []
        | .neq=>.pure (.b λ_=>!f ()) []
        | _=>.fail
       | _,_=>.fail
      else .fail
     | none=>.fail
    | x,y=>match X.tt t with
     | some i=>match i.d with
      | .bool=>match OF x y,x.Hk,y.Hk with
       | some f,some _,some _=>match op with
        | .eql=>.pure (.b f) []
        | .neq=>.pure (.b λ_=>!f ()) []
        | _=>.fail
       | _,_,_=>.fail
      | .map _ _=>match Te x y with
       | some (d,p)=>match op with
        | .eql=>.mD p (.bc d) []
        | .neq=>.mD p (.bc (!d)) []
        | _=>.fail
       | none=>.fail
      | .sl _=>match Td x y with
       | some p=>match op with
        | .eql=>.pure (.nb true p) []
        | .neq=>.pure (.nb false p) []
        | _=>.fail
       | none=>match x,y,op with
        | .cW,.cW,.eql=>.pure (.bc true) []
        | .cW,.cW,.neq=>.pure (.bc false) []
        | _,_,_=>.fail
      | _=>.fail
     | none=>.fail
def Ps (op:UnOp) (x:SV):eN :=
 match op,x with
 | .not,.bc c=>.pure (.bc (!c)) []
 | .not,.b x=>.pure (.b λ_=>!x ()) []
 | .not,.nb d p=>.pure (.nb (!d) p) []
 | .neg,.ic k n=>.pure (.ic k (k.wrap (0 - n))) []
 | .neg,.i k n=>.pure (.i k λ_=>k.wrap (0 - n ())) []
 | .xor,.i k n=>match k.signed with
  | true=>.pure (.i k λ_=>fN .xor k (-1) (n ())) []
  | false=>.fail
 | _,_=>.fail
def N4 (c a b:SV):eN :=
 match c with
 | .bc true=>.pure a []
 | .bc false=>.pure b []
 | .b x=>match a.Hk,b.Hk with
  | some f,some g=>.pure (.b λ_=>if x () then f () else g ()) []
  | _,_=>.fail
 | _=>.fail
def N5 (X:Ctx) (src dst:TypeId) (x:SV):eN :=
 match X.tt src,X.tt dst with
 | some i,some j=>match j.d,x with
  | .int k,.ic _ n=>.pure (.ic k (k.wrap n)) []
  | .int k,.i _ n=>.pure (.i k λ_=>k.wrap (n ())) []
  | .str,.str x=>.pure (.str x) []
  | _,_=>.fail
 | _,_=>.fail
def ud (i:TI) (cs:List SV) (off:Nat):Option SV :=
 if off+i.size<=cs.length then
  if i.agg then some (.agg ((cs.drop off).take i.size)) else cs[off]?
 else none
def DB (X:Ctx) (b:List Slot) (t:TypeId) (x:SV):eN :=
 match X.tt t with
 | none=>.fail
 | some i=>match x with
  | .ptr l off=>match b[l]? with
   | some (.fix e cs)=>match ud i cs off with
    | some v=>.pure v []
    | none=>.fail
   | _=>.fail
  | .dU cs off=>match ud i cs off with
   | some v=>.pure v []
   | none=>.fail
  | .gz l sz j off=>match b[l]? with
   | some (@Slot.dyn T e kp c xs)=>if sz=kp then
     .ex T (λx=>(xs ())[j ()]?=some x/\(ud i (c x) off).isSome=true) (λx=>(ud i (c x) off).getD .any) (λ_=>[])
    else .fail
   | some (@Slot.fu T e c xs p ys)=>match ys with
    | [y]=>if sz=1/\off=0/\i.size=1/\i.agg=false then .mD (λ_=>j ()=p ()) y [] else .fail
    | _=>.fail
   | _=>.fail
  | _=>.fail
def putCells:List SV->Nat->List SV->List SV
 | cs,_,[]=>cs
 | cs,o,x :: xs=>putCells (cs.set o x) (o+1) xs
def ade:SV->Option Nat
 | .own l=>some l
 | _=>none
def A7 (
      X:Ctx) (b:List Slot) (t:TypeId) (x y:SV):eN :=
 match X.tt t,y.cells? with
 | some i,some ys=>if ys.length=i.size then match x with
  | .ptr l off=>match b[l]? with
   | some (.fix e cs)=>if off+i.size<=cs.length then .pure .any [(l,.fix e (putCells cs off ys))] else .fail
   | _=>.fail
  | .gz l sz j off=>match b[l]? with
   | some (@Slot.dyn T e kp c xs)=>match ade y with
    | some l'=>if sz=1/\kp=1/\off=0 then .mD (λ_=>j () < (xs ()).length) .any [(l,.fu e c xs j [.own l'])] else .fail
    | none=>if sz=kp/\off+i.size<=sz then
     .ex (T × T) (λp=>(xs ())[j ()]?=some p.1/\(c p.2).length=sz/\dF (putCells (c p.1) off ys) (c p.2)) (λ_=>.any)
      (λp=>[(l,.dyn e kp c λ_=>(xs ()).set (j ()) p.2)])
    else .fail
   | _=>.fail
  | _=>.fail
  else .fail
 | _,_=>.fail
def IC (X:Ctx) (t:TypeId) (x:SV) (j:Nat):eN :=
 match X.tt t with
 | some i=>match i.d with
  | .st fs=>match fs[j]? with
   | some (_,o,_)=>match x with
    | .ptr l off=>.pure (.ptr l (off+o)) []
    | .dU cs off=>.pure (.dU cs (off+o)) []
    | .gz l sz k off=>.pure (.gz l sz k (off+o)) []
    | _=>.fail
   | none=>.fail
  | _=>.fail
 | none=>.fail
def Au (X:Ctx) (b:List Slot) (t:TypeId) (x ix:SV):eN :=
 match X.tt t with
 | none=>.fail
 | some i =>
       match i.d with
  | .arr n e=>match X.tt e,ix with
   | some j,.ic k m=>if 0<=m/\m.toNat < n then match x with
    | .ptr l off=>.pure (.ptr l (off+m.toNat*j.size)) []
    | .dU cs off=>.pure (.dU cs (off+m.toNat*j.size)) []
    | .gz l sz p off=>.pure (.gz l sz p (off+m.toNat*j.size)) []
    | _=>.fail
    else .fail
   | some j,.i k m=>(match x with
    | .ptr l off=>.ex Nat (λg=>m ()=(g:Int)/\g < n) (λg=>.ptr l (off+g*j.size)) (λ_=>[])
    | .dU cs off=>.ex Nat (λg=>m ()=(g:Int)/\g < n) (λg=>.dU cs (off+g*j.size)) (λ_=>[])
    | .gz l sz p off=>.ex Nat (λg=>m ()=(g:Int)/\g < n) (λg=>.gz l sz p (off+g*j.size)) (λ_=>[])
    | _=>.fail)
   | _,_=>.fail
  | .sl e=>match X.tt e,ix.kJ with
   | some j,some (k,m)=>match x with
    | @SV.sl T sz c xs=>if sz=j.size then
      .ex T (λy=>0<=m ()/\(xs ())[(m ()).toNat]?=some y) (λy=>.dU (c y) 0) (λ_=>[])
     else .fail
    | .own l=>match b[l]? with
     | some (.dyn e' sz c xs)=>if sz=j.size then
       .mD (λ_=>0<=m ()/\(m ()).toNat < (xs ()).length) (.gz l sz (λ_=>(m ()).toNat) 0) []
      else .fail
     | some (.fu e' c xs p ys)=>if j.size=1 then
       .mD (λ_=>0<=m ()/\(m ()).toNat < (xs ()).length) (.gz l 1 (λ_=>(m ()).toNat) 0) []
      else .fail
     | _=>.fail
    | .fa l sz g h=>match b[l]? with
     | some (.dyn e' kp c xs)=>if sz=j.size then
       .mD (λ_=>0<=m ()/\(m ()).toNat < h () - g ()) (.gz l sz (λ_=>g ()+(m ()).toNat) 0) []
      else .fail
     | _=>.fail
    | .eF cs n=>match ix with
     | .ic _ m=>if 0<=m/\m.toNat < n/\cs.length=n*j.size then .pure (.dU ((cs.drop (m.toNat*j.size)).take j.size) 0) [] else .fail
     | .i _ m=>match X.el e with
      | some E=>.ex (E.T × List E.T) (λy=>dF cs (y.2.flatMap E.c)/\y.2.length=n/\0<=m ()/\y.2[(m ()).toNat]?=some y.1) (λy=>.dU (E.c y.1) 0) (λ_=>[])
      | none=>.fail
     | _=>.fail
    | _=>.fail
   | _,_=>.fail
  | _=>.fail
def Ns (X:Ctx) (t:TypeId) (x ix:SV):eN :=
 match X.tt t with
 | none=>.fail
 | some i=>match i.d,x with
  | .str,.str s=>match ix.kJ with
   | some (k,m)=>.mD (λ_=>0<=m ()/\(m ()).toNat < (s ()).size) (.i .u8 λ_=>((s ()).data.toList.getD (m ()).toNat 0).toNat) []
   | none=>.fail
  | .arr n e,.agg cs=>match X.tt e,ix with
   | some j,.ic k m=>if 0<=m/\m.toNat < n/\n*j.size=cs.length then match ud j cs (m.toNat*j.size) with
     | some v=>.pure v []
     | none=>.fail
    else .fail
   | some j,.i k m=>if n*j.size=cs.length then
     .ex Nat (λg=>m ()=(g:Int)/\g < n/\(ud j cs (g*j.size)).isSome=true) (λg=>(ud j cs (g*j.size)).getD .any) (λ_=>[])
    else .fail
   | _,_=>.fail
  | _,_=>.fail
def DC (place:Nat->Option (Nat × Nat)):List (Nat × SV)->List SV->Option (List SV)
 | [],cs=>some cs
 | (j,x) :: r,cs=>match place j,x.cells? with
  | some (off,size),some ys=>if ys.length=size/\off+ys.length<=cs.length then DC place r (putCells cs off ys) else none
  | _,_=>none
def Nt (X:Ctx) (t:TypeId) (parts:List (Nat × SV)):eN :=
 match X.tt t with
 | none=>.fail
 | some i=>match i.d with
  | .st fs=>match DC (λj=>(fs[j]?).map (·.2)) parts (i.zero.cells.toList.map lA) with
   | some cs=>.pure (.agg cs) []
   | none=>.fail
  | .arr n e=>match X.tt e with
   | some k=>match DC (λj=>some (j*k.size,k.size)) parts (i.zero.cells.toList.map lA) with
    | some cs=>.pure (.agg cs) []
    | none=>.fail
   | none=>.fail
  | _=>.fail
def vq {α:Type 1} (xs:List α):Nat->List α
 | 0=>[]
 | n+1=>xs++vq xs n
def IA (X:Ctx) (l:Nat) (t:TypeId) (n:Nat) (parts:List (Nat × SV)):eN :=
 match X.tt t with
 | none=>.fail
 | some i =>
       match i.d with
  | .sl e=>match X.tt e with
   | none=>.fail
   | some k=>match n with
    | 0=>match parts,X.el e with
     | [],some E=>match X.emp t with
      | false=>.pure (.own l) [(l,.dyn e k.size E.c λ_=>[])]
      | true=>.pure (.sl k.size E.c λ_=>[]) []
     | _,_=>.fail
    | n+1=>if (n+1)*k.size<=16777216 then
      match DC (λj=>some (j*k.size,k.size)) parts (vq (k.zero.cells.toList.map lA) (n+1)) with
      | some cs=>match X.row t with
       | false=>.pure (.eF cs (n+1)) []
       | true=>match X.el e with
        | some E=>.ex (List E.T) (λys=>dF cs (ys.flatMap E.c)/\ys.length=n+1) (λ_=>.own l) (λys=>[(l,.dyn e k.size E.c λ_=>ys)])
        | none=>.fail
      | none=>.fail
     else .fail
  | _=>.fail
def ID (X:Ctx) (l:Nat) (t:TypeId) (len cap:SV):eN :=
 match X.tt t with
 | none=>.fail
 | some i=>match i.d with
  | .sl e=>match X.tt e,X.el e,len.kJ,cap.kJ with
   | some k,some E,some (_,n),some (_,m) =>
    .mD (λ_=>0<=n ()/\n ()<=m ()/\(k.bytes:Int)*m ()<=281474976710656/\m ()<=9223372036854775807) (.own l)
     [(l,.dyn e k.size E.c λ_=>List.replicate (n ()).toNat E.z)]
   | _,_,_,_=>.fail
  | _=>.fail
def top (b:List Slot):SV->SV
 | .own l=>match b[l]? with
  | some (.dyn e sz c xs)=>.sl sz c xs
  | _=>.own l
 | .fa l sz m k=>match b[l]? with
  | some (.dyn e kp c xs)=>(match Nat.beq sz kp with
   | true=>.sl kp c λ_=>((xs ()).take (k ())).drop (m ())
   | false=>.fa l sz m k)
  | _=>.fa l sz m k
 | x=>x
def Bj (X:Ctx) (b:List Slot) (t:TypeId) (s x:SV):eN :=
 match X.tt t with
 | none=>.fail
 | some i =>
       match i.d with
  | .sl e=>match X.tt e,s with
   | some k,.own l0=>match b[l0]? with
    | some (@Slot.dyn T e' sz c xs)=>if e'=e/\sz=k.size/\sz=1 then
      .ex (List T) (λys=>Le (top b x) (.sl sz c λ_=>ys)) (λys=>.i .i64 λ_=>((min (xs ()).length ys.length:Nat):Int))
       (λys=>[(l0,.dyn e sz c λ_=>ys.take (xs ()).length++(xs ()).drop ys.length)])
     else .fail
    | _=>.fail
   | _,_=>.fail
  | _=>.fail
def A8 (
      X:Ctx) (b:List Slot) (t:TypeId) (x:SV):eN :=
 match X.tt t with
 | none=>.fail
 | some i =>
       match i.d with
  | .sl e=>match X.tt e,x with
   | some k,.fa l0 sz g h=>match b[l0]? with
    | some (@Slot.dyn T e' kp c xs)=>if e'=e/\kp=k.size/\sz=1/\k.size=1/\k.agg=false then
      .ex T (λz=>dF (k.zero.cells.toList.map lA) (c z)) (λ_=>.cS [])
       (λz=>[(l0,.dyn e kp c λ_=>(xs ()).take (g ())++List.replicate (h () - g ()) z++(xs ()).drop (g ()+(h () - g ())))])
     else .fail
    | _=>.fail
   | _,_=>.fail
  | _=>.fail
def Hl (g:Int->Int->Int) (x y:SV):eN :=
 match x.kJ,y.kJ with
 | some (k,m),some (k',n)=>if k=k' then .pure (.i k λ_=>g (m ()) (n ())) [] else .fail
 | _,_=>.fail
def GI (g:Int->Int->Int) (x y z:SV):eN :=
 match x.kJ,y.kJ,z.kJ with
 | some (k,m),some (k',n),some (k'',p)=>if k=k'/\k=k'' then .pure (.i k λ_=>g (g (m ()) (n ())) (p ())) [] else .fail
 | _,_,_=>.fail
def yX (X:Ctx) (b:List Slot) (l:Nat) (t:TypeId) (s x:SV):eN :=
 match X.tt t with
 | none=>.fail
 | some i =>
       match i.d with
  | .sl e=>match X.tt e with
   | none=>.fail
   | some k=>match s with
    | .own l0=>match b[l0]? with
     | some (@Slot.dyn T e' sz c xs)=>if e'=e/\sz=k.size then
       .ex (List T) (λys=>Le (top b x) (.sl sz c λ_=>ys)/\((xs ()).length+ys.length)*k.bytes<=140737488355328/\(xs ()).length+ys.length<=9223372036854775807)
        (λ_=>.own l) (λys=>[(l0,.dead),(l,.dyn e sz c λ_=>xs ()++ys)])
      else .fail
     | _=>.fail
    | .fa l0 Et g n=>match b[l0]? with
     | some (@Slot.dyn T e' sz c xs)=>if e'=e/\sz=k.size/\Et=k.size then
       .ex (List T) (λys=>(g ()=0/\n ()<=(xs ()).length)/\Le (top b x) (.sl sz c λ_=>ys)/\(n ()+ys.length)*k.bytes<=140737488355328/\n ()+ys.length<=9223372036854775807)
        (λ_=>.own l) (λys=>[(l0,.dead),(l,.dyn e sz c λ_=>(xs ()).take (n ())++ys)])
      else .fail
     | _=>.fail
    | .cW=>match X.el e with
     | some E=>.ex (List E.T) (λys=>Le (top b x) (.sl k.size E.c λ_=>ys)/\ys.length*k.bytes<=140737488355328/\ys.length<=9223372036854775807)
        (λ_=>.own l) (λys=>[(l,.dyn e k.size E.c λ_=>ys)])
     | none=>.fail
    | @SV.gH T sz c xs=>if sz=k.size then
      .ex (List T) (λys=>Le (top b x) (.sl sz c λ_=>ys)/\((xs ()).length+ys.length)*k.bytes<=140737488355328/\(xs ()).length+ys.length<=9223372036854775807/\ys≠[]/\∀z,(c z).all SV.one=true)
       (λ_=>.own l) (λys=>[(l,.dyn e sz c λ_=>xs ()++ys)])
     else .fail
    | .eF cs (n+1)=>match X.el e,x with
     | some E,.eF ds (m+1)=>.ex (List E.T × List E.T) (λy=>dF cs (y.1.flatMap E.c)/\y.1.length=n+1/\dF ds (y.2.flatMap E.c)/\y.2.length=m+1 /\
        (n+1+(m+1))*k.bytes<=140737488355328/\n+1+(m+1)<=9223372036854775807)
       (λ_=>.own l) (λy=>[(l,.dyn e k.size E.c λ_=>y.1++y.2)])
     | _,_=>.fail
    | _=>.fail
  | _=>.fail
def yU (
       X:Ctx) (b:List Slot) (l:Nat) (t t':TypeId) (s x:SV):eN :=
 match s with
 | .cW=>match X.tt t,X.tt t',x.kJ with
  | some i,some i',some (k',n)=>match i.d,i'.d with
   | .sl e,.int _=>match X.tt e,X.el e with
    | some k,some E=>if k.size=1/\k'=.i64 then
      .ex (List E.T) (λys=>(ys.length:Int)=n ()/\(∀y∈ys,dF (k.zero.cells.toList.map lA) (E.c y))/\ys.length*k.bytes<=140737488355328/\ys.length<=9223372036854775807)
       (λ_=>.own l) (λys=>[(l,.dyn e k.size E.c λ_=>ys)])
     else .fail
    | _,_=>.fail
   | _,_=>.fail
  | _,_,_=>.fail
 | .own l0=>match b[l0]? with
  | some (
      @Slot.dyn T e' sz c xs)=>match X.tt t,X.tt t',x.kJ with
   | some i,some i',some (k',n)=>match i.d,i'.d with
    | .sl e,.int _=>match X.tt e with
     | some k=>if e'=e/\sz=k.size/\k.size=1/\k'=.i64 then
       .ex (List T) (λys=>(ys.length:Int)=n ()/\(∀y∈ys,dF (k.zero.cells.toList.map lA) (c y))/\((xs ()).length+ys.length)*k.bytes<=140737488355328/\(xs ()).length+ys.length<=9223372036854775807)
        (λ_=>.own l) (λys=>[(l0,.dead),(l,.dyn e sz c λ_=>xs ()++ys)])
      else .fail
     | none=>.fail
    | _,_=>.fail
   | _,_,_=>.fail
  | _=>.fail
 | _=>.fail
def bound (len:Unit->Nat):Option SV->Option (Unit->Int)
 | none=>some λ_=>len ()
 | some x=>match x.kJ with
  | some (_,n)=>some n
  | none=>none
def lower:Option SV->Option (Unit->Int)
 | none=>some λ_=>0
 | some x=>match x.kJ with
  | some (_,n)=>some n
  | none=>none
def aeo:SV->Bool
 | .cW|.own _|.eF ..|.sl ..=>true
 | _=>false
def clip:Option SV->Option SV->Option SV->Bool
 | none,some (.ic _ 0),some (.ic _ 0)=>true
 | _,_,_=>false
def A9 (
      X:Ctx) (b:List Slot) (l:Nat) (t:TypeId) (x:SV) (lo hi mx:Option SV):eN :=
 match X.tt t with
 | none=>.fail
 | some i =>
       match i.d with
  | .sl e=>match X.tt e with
   | none=>.fail
   | some k =>
         if clip lo hi mx&&aeo x then
     match X.el e with
     | some E=>.pure (.own l) [(l,.dyn e k.size E.c λ_=>[])]
     | none=>.fail
    else match x,mx with
     | @SV.sl T sz c xs,some z=>if sz=k.size then
       match lo,hi.bind SV.kJ,z.kJ with
       | none,some (_,n),some (_,m)=>.mD (λ_=>n ()=(xs ()).length/\m ()=(xs ()).length) (.gH sz c xs) []
       | _,_,_=>.fail
      else .fail
     | @SV.sl T sz c xs,none=>if sz=k.size then
       match lower lo,bound (λ_=>(xs ()).length) hi with
       | some m,some n=>.mD (λ_=>0<=m ()/\m ()<=n ()/\n ()<=(xs ()).length) (.sl sz c λ_=>((xs ()).take (n ()).toNat).drop (m ()).toNat) []
       | _,_=>.fail
      else .fail
     | .own l0,none=>match b[l0]? with
      | some (.dyn e' sz c xs)=>if sz=k.size then
        match lower lo,bound (λ_=>(xs ()).length) hi with
        | some m,some n=>.mD (λ_=>0<=m ()/\m ()<=n ()/\n ()<=(xs ()).length) (.fa l0 k.size (λ_=>(m ()).toNat) (λ_=>(n ()).toNat)) []
        | _,_=>.fail
       else .fail
      | _=>.fail
     | .fa l0 sz g h,none=>match b[l0]? with
      | some (.dyn e' kp c xs)=>if sz=k.size then
        match lower lo,bound (λ_=>h () - g ()) hi with
        | some m,some n=>.mD (λ_=>0<=m ()/\m ()<=n ()/\(n ()).toNat<=h () - g ()) (.fa l0 k.size (λ_=>g ()+(m ()).toNat) (λ_=>g ()+(n ()).toNat)) []
        | _,_=>.fail
       else .fail
      | _=>.fail
     | .cW,none=>match lo,hi with
      | none,some (.ic _ 0)=>.pure .cW []
      | _,_=>.fail
     | .eF cs n,none=>match X.el e with
      | some E=>match lower lo,bound (λ_=>n) hi with
       | some m,some h=>.ex (List E.T) (λl=>l.length=n/\dF cs (l.flatMap E.c)/\0<=m ()/\m ()<=h ()/\h ()<=n)
         (λl=>.sl k.size E.c λ_=>(l.take (h ()).toNat).drop (m ()).toNat) (λ_=>[])
       | _,_=>.fail
      | none=>.fail
     | _,_=>.fail
  | .str=>match x,mx with
   | .str s,none=>match lower lo,bound (λ_=>(s ()).size) hi with
    | some m,some n=>.mD (λ_=>0<=m ()/\m ()<=n ()/\n ()<=(s ()).size) (.str λ_=>(s ()).extract (m ()).toNat (n ()).toNat) []
    | _,_=>.fail
   | _,_=>.fail
  | .arr n e=>match X.tt e,X.el e with
   | some k,some E=>match x,mx with
    | .dU cs off,none=>match lower lo,bound (λ_=>n) hi with
     | some m,some h=>.ex (List E.T) (λl=>l.length=n/\dF ((cs.drop off).take (n*k.size)) (l.flatMap E.c)/\0<=m ()/\m ()<=h ()/\h ()<=n)
       (λl=>.sl k.size E.c λ_=>(l.take (h ()).toNat).drop (m ()).toNat) (λ_=>[])
     | _,_=>.fail
    | _,_=>.fail
   | _,_=>.fail
  | _=>.fail
def DS (X:Ctx) (b:List Slot) (t:TypeId) (x:SV):eN :=
 match X.tt t with
 | none=>.fail
 | some i=>match i.d,x with
  | .str,.str s=>.pure (.i .i64 λ_=>(s ()).size) []
  | .arr n _,_=>.pure (.ic .i64 n) []
  | .sl _,.cW=>.pure (.ic .i64 0) []
  | .sl _,.eF _ n=>.pure (.ic .i64 n) []
  | .sl _,.sl sz c xs=>.pure (.i .i64 λ_=>(xs ()).length) []
  | .sl _,.gH sz c xs=>.pure (.i .i64 λ_=>(xs ()).length) []
  | .sl _,.own l=>match b[l]? with
   | some (.dyn e sz c xs)=>.pure (.i .i64 λ_=>(xs ()).length) []
   | _=>.fail
  | .sl _,.fa l sz m k=>match b[l]? with
   | some (.dyn e kp c xs)=>.pure (.i .i64 λ_=>((k () - m ():Nat):Int)) []
   | _=>.fail
  | .map _ _,.mp k c m=>.ex (List k.T) (λks=>ks.Nodup/\∀n,n∈ks↔(m () n).isSome=true) (λks=>.i .i64 λ_=>ks.length) (λ_=>[])
  | .map _ _,.gF l=>match b[l]? with
   | some (.map k c m)=>.ex (List k.T) (λks=>ks.Nodup/\∀n,n∈ks↔(m () n).isSome=true) (λks=>.i .i64 λ_=>ks.length) (λ_=>[])
   | _=>.fail
  | _,_=>.fail
def OH (X:Ctx) (t:TypeId) (x:SV):eN :=
 match X.tt t with
 | none=>.fail
 | some i=>match i.d,x with
  | .sl _,.cW=>.pure (.ic .i64 0) []
  | _,_=>.fail
def Nu (X:Ctx) (t:TypeId) (x:SV) (j:Nat):eN :=
 match X.tt t,x with
 | some i,.agg cs=>match i.d with
  | .st fs=>match fs[j]? with
   | some (ft,o,_)=>match X.tt ft with
    | some k=>match ud k cs o with
     | some v=>.pure v []
     | none=>.fail
    | none=>.fail
   | none=>.fail
  | _=>.fail
 | _,_=>.fail
def abZ (X:Ctx) (vt:TypeId) (vi:TI):Option (Σ T:Type,T->List SV):=match vi.d with
 | .bool=>some ⟨Unit,λ_=>[.bc true]⟩
 | _=>match X.el vt with
  | some E=>match vi.agg with
   | true=>some ⟨E.T,λt=>[.agg (E.c t)]⟩
   | false=>some ⟨E.T,E.c⟩
  | none=>none
def TI.key (i:TI):Option KD:=match i.d with
 | .int k=>some (.int k)
 | _=>match i.kd with
  | some ks=>some (.ints ks)
  | none=>none
def DT:List IntKind->List SV->Option (Unit->List Int)
 | [],[]=>some λ_=>[]
 | k :: ks,x :: xs=>match x.kJ,DT ks xs with
  | some (k',n),some f=>if k'=k then some (λ_=>n () :: f ()) else none
  | _,_=>none
 | _,_=>none
def KD.key:(k:KD)->SV->Option (Unit->k.T)
 | .int k,x=>match x.kJ with
  | some (k',n)=>if k'=k then some n else none
  | none=>none
 | .ints ks,.agg cs=>DT ks cs
 | .ints _,_=>none
def JW:Nat->List IntKind->List Int->List SV
 | _,[],_=>[]
 | j,k :: ks,l=>.i k (λ_=>l.getD j 0) :: JW (j+1) ks l
def KD.sv:(k:KD)->k.T->SV
 | .int k,n=>.i k (λ_=>n)
 | .ints ks,l=>.agg (JW 0 ks l)
def Jb (X:Ctx) (l:Nat) (t:TypeId):eN :=
 match X.tt t with
 | none=>.fail
 | some i=>match i.d with
  | .map kt vt=>match X.tt kt,X.tt vt with
   | some ki,some vi=>match ki.key,abZ X vt vi with
    | some k,some E=>.pure (.gF l) [(l,.map k E.2 λ_ _=>none)]
    | _,_=>.fail
   | _,_=>.fail
  | _=>.fail
def Nd {T:Type} (z:Value) (c:T->List SV) (b:Unit->Bool):Option (Option T)->SV
 | none=>.b b
 | some (some t)=>(c t).headD .any
 | some none=>zF z
def Jw {T:Type} (b:Unit->Bool):Option (Option T)->SV
 | none=>.b b
 | some (some _)=>.bc true
 | some none=>.bc false
def adf {T:Type} (z:Value) (c:T->List SV) (r:Option T):Option (Option T)->Prop
 | none=>z=.bool false/\∀t,c t=[.bc true]
 | some o=>r=o
def Tf {T K:Type} (z:Value) (c:T->List SV) (m:Unit->K->Option T) (n:Unit->K) (ok:Bool):eN :=
 .ex (Option (Option T)) (λo=>adf z c (m () (n ())) o)
  (λo=>match ok with
   | true=>.cS [Nd z c (λ_=>(m () (n ())).isSome) o,Jw (λ_=>(m () (n ())).isSome) o]
   | false=>Nd z c (λ_=>(m () (n ())).isSome) o) (λ_=>[])
def Dg (X:Ctx) (b:List Slot) (t:TypeId) (x ix:SV) (ok:Bool):eN :=
 match X.tt t with
 | none=>.fail
 | some i =>
       match i.d with
  | .map kt vt=>match X.tt kt,X.tt vt with
   | some ki,some vi=>match ki.key with
    | some kk=>match x with
     | .mp k c m=>if k=kk then match k.key ix with
       | some n=>Tf vi.zero c m n ok
       | none=>.fail
      else .fail
     | .gF l=>match b[l]? with
      | some (.map k c m)=>if k=kk then match k.key ix with
        | some n=>Tf vi.zero c m n ok
        | none=>.fail
       else .fail
      | _=>.fail
     | .v x=>match kk.key ix with
      | some n=>.ex Unit (λ_=>x ()=.map none) (λ_=>match ok with|true=>.cS [zF vi.zero,.bc false]|false=>zF vi.zero) (λ_=>[])
      | none=>.fail
     | _=>.fail
    | none=>.fail
   | _,_=>.fail
  | _=>.fail
def yM (
        X:Ctx) (b:List Slot) (t:TypeId) (x ix y:SV):eN :=
 match X.tt t with
 | none=>.fail
 | some i =>
       match i.d with
  | .map kt vt=>match X.tt kt with
   | some ki=>match ki.key with
    | some kk=>match x with
     | .gF l=>match b[l]? with
      | some (@Slot.map T k c m)=>if k=kk then match k.key ix with
        | some n=>.ex T (λt=>dF [y] (c t)) (λ_=>.any) (λt=>[(l,.map k c λ_=>k.jJ (m ()) (n ()) t)])
        | none=>.fail
       else .fail
      | _=>.fail
     | _=>.fail
    | none=>.fail
   | none=>.fail
  | _=>.fail
def Ds (b:List Slot) (x:SV):eN :=
 match x with
 | .ptr l 0=>match b[l]? with
  | some (.iter k c m seen (some (n,t)))=>.pure (.cS (k.sv n :: c t)) []
  | _=>.fail
 | _=>.fail
def Jx (X:Ctx) (l:Nat) (t:TypeId) (x:SV):eN :=
 match X.tt t with
 | none=>.fail
 | some i=>match i.d,x with
  | .map _ _,.mp k c m=>.pure (.ptr l 0) [(l,.iter k c m (λ_=>[]) none)]
  | _,_=>.fail
def SV.ji:SV->Bool
 | .ptr ..|.gz ..|.own _|.fa ..|.gF _|.gP _=>true
 | .agg cs=>cs.any λ|.ptr ..|.gz ..|.own _|.fa ..|.gF _|.gP _=>true|.fn ..|.nj ..|.agg _|.cS _|.dU ..|.eF ..=>true|_=>false
 | .cS _|.fn ..|.nj ..|.dU ..|.eF ..=>true
 | _=>false
mutual
def SV.lb:SV->Bool
 | .ptr ..|.gz ..|.own _|.fa ..|.gF _|.gP _=>true
 | .fn _ xs ys=>rX xs||rX ys
 | .agg cs=>rX cs
 | .cS cs=>rX cs
 | .eF cs _=>rX cs
 | .dU cs _=>rX cs
 | _=>false
def rX:List SV->Bool
 | []=>false
 | x :: r=>x.lb||rX r
end
mutual
def kB:SV->SV
 | .ptr ..|.gz ..|.own _|.fa ..|.gF _|.gP _=>.cell
 | .agg cs=>.agg (xI cs)
 | .cS cs=>.cS (xI cs)
 | .fn f xs ys=>.fn f (xI xs) (xI ys)
 | x=>x
def xI:List SV->List SV
 | []=>[]
 | x :: r=>kB x :: xI r
end
def Gs (X:Ctx) (b:List Slot) (f:FuncId) (args:List SV):eN :=
 match X.sp f with
 | none=>.fail
 | some S=>if args.any SV.ji then
   .ex S.α (λa=>(dF (args.map (view b)) (S.args a)/\((S.res a).scalar||(S.fr||!rX args))=true\/dF (xI args) (S.args a))/\S.pre a) S.res (λ_=>[])
  else .ex S.α (λa=>dF args (S.args a)/\S.pre a) S.res (λ_=>[])
def AR (X:Ctx) (b:List Slot) (l:Nat) (bi:Builtin) (ts:List TypeId) (xs:List SV):eN :=
 match bi with
 | .len=>match ts,xs with
  | [t],[x]=>DS X b t x
  | _,_=>.fail
 | .append=>match ts,xs with
  | [t,t'],[x,y]=>if t=t' then yX X b l t x y else yU X b l t t' x y
  | _,_=>.fail
 | .copy=>match ts,xs with
  | [t,t'],[x,y]=>if t=t' then Bj X b t x y else .fail
  | _,_=>.fail
 | .clear=>match ts,xs with
  | [t],[x]=>A8 X b t x
  | _,_=>.fail
 | .min=>match xs with
  | [x,y]=>Hl min x y
  | [x,y,z]=>GI min x y z
  | _=>.fail
 | .max=>match xs with
  | [x,y]=>Hl max x y
  | [x,y,z]=>GI max x y z
  | _=>.fail
 | .cap=>match ts,xs with
  | [t],[x]=>OH X t x
  | _,_=>.fail
 | _=>.fail
def eJ (X:Ctx) (s:St) (l:Nat):Op->eN
 | .move x|.assign x=>.pure (ev s x) []
 | .pick c a b=>N4 (ev s c) (ev s a) (ev s b)
 | .alloc e=>match X.tt e with
  | some i=>.pure (.ptr l 0) [(l,.fix e (i.zero.cells.toList.map lA))]
  | none=>.fail
 | .box e x=>match X.tt e,(ev s x).cells? with
  | some i,some cs=>.pure (.ptr l 0) [(l,.fix e cs)]
  | _,_=>.fail
 | .build t parts=>Nt X t (parts.toList.map λp=>(p.1,ev s p.2))
 | .buildSlice t n parts=>IA X l t n (parts.toList.map λp=>(p.1,ev s p.2))
 | .load t x=>DB X s.b t (ev s x)
 | .store t x y=>A7 X s.b t (ev s x) (ev s y)
 | .nilCheck x=>match ev s x with
  | .ptr l off=>.pure (.ptr l off) []
  | .dU cs off=>.pure (.dU cs off) []
  | .fn (.func f) fs cs=>.pure (.fn (.func f) fs cs) []
  | _=>.fail
 | .binOp op t x y _=>OG X op t (ev s x) (ev s y)
 | .unOp op _ x=>Ps op (ev s x)
 | .convert src dst x=>N5 X src dst (ev s x)
 | .makeFunc fn first cap=>.pure (.fn fn (first.toList.map (ev s)) (cap.toList.map (ev s))) []
 | .makeSlice t n m=>ID X l t (ev s n) (ev s m)
 | .slice t x lo hi mx=>A9 X s.b l t (ev s x) (lo.map (ev s)) (hi.map (ev s)) (mx.map (ev s))
 | .fieldAddr t x j=>IC X t (ev s x) j
 | .field t x j=>Nu X t (ev s x) j
 | .indexAddr t x i=>Au X s.b t (ev s x) (ev s i)
 | .index t x i=>Ns X t (ev s x) (ev s i)
 | .extract x j=>match ev s x with
  | .cS cs=>match cs[j]? with
   | some v=>.pure v []
   | none=>.fail
  | _=>.fail
 | .makeMap t r=>match r with
  | none=>Jb X l t
  | some _=>.fail
 | .lookup t x i ok=>Dg X s.b t (ev s x) (ev s i) ok
 | .mapUpdate t x i y=>yM X s.b t (ev s x) (ev s i) (ev s y)
 | .insert t x i y=>yM X s.b t (ev s x) (ev s i) (ev s y)
 | .range t x=>Jx X l t (ev s x)
 | .entry x=>Ds s.b (ev s x)
 | .call c=>match c.callee with
  | .value g=>match ev s g with
   | .fn (.func f) first cap=>Gs X s.b f (first++c.args.toList.map (ev s)++cap)
   | _=>.fail
  | .builtin bi=>AR X s.b l bi c.argTypes.toList (c.args.toList.map (ev s))
  | _=>.fail
 | _=>.fail
def sL:Op->Bool
 | .store ..|.mapUpdate ..|.insert ..=>true
 | _=>false
def gu:Op->Bool
 | .alloc _|.box ..|.buildSlice ..|.makeSlice ..|.makeMap ..|.range ..=>true
 | .slice _ _ _ _ (some _)=>true
 | .call { callee:=.builtin .append,.. }=>true
 | _=>false
def fD (P:Program) (f:Fr) (s:St) (o:Oper) (a:Act) (w:World) (R:SV->List (Nat × Slot)->Prop):Prop :=
 ∃x u,R x u/\∀(K:Act->World->Prop) (Q:Exit->Act->World->Prop),
  (∀η' H' w' v,Den f (s.jJ o.dst x u) η' H' (a.put o.dst v) w'->K (a.put o.dst v) w')->o.wp P a w K Q
section
variable {P:Program} {X:Ctx} {f:Fr} {s:St} {η:Nat->Value} {H:bB} {a:Act} {w:World} {o:Oper} {R:SV->List (Nat × Slot)->Prop}
theorem yV (D:Den f s η H a w) {x:SV} {v:Value} {w':World} (hr:(execOp a.eval o).run P w=.ok (.value v) w') (g:w.grownBy w' none)
  (hx:rel η (aW s.b) H x v) (h:R x []):fD P f s o a w R :=
 ⟨x,[],h,λK Q hk=>by
  unfold Oper.wp
  rw [hr]
  exact hk η H w' v ((D.grown g).put o.dst hx)⟩
theorem eB (D:Den f s η H a w) {x:SV} {v:Value} (hr:∀w,(execOp a.eval o).run P w=.ok (.value v) w)
 (hx:rel η (aW s.b) H x v) (h:R x []):fD P f s o a w R:=yV D (hr w) (p9 w none) hx h
theorem Den.Dh (D:Den f s η H a w) (t:Nat):rel η (aW s.b) H ((s.t[t]?).getD .any) (a.tmps.getD t undef):=by
 cases h:s.t[t]? with
 | none=>simp [rel]
 | some x =>
  obtain ⟨u,h1,h2⟩:=u7 D.t t x h
  have h3:a.tmps[t]?=some u:=by simpa using h1
  rw [Ja,h3]
  exact h2
theorem Sb (η:Nat->Value) (q:Nat->Live) (H:bB) (v:Value):rel η q H (lA v) v:=by
 unfold lA
 split<;>simp [rel]
theorem AE (η:Nat->Value) (q:Nat->Live) (H:bB):∀(vs:List Value),aQ η q H (vs.map lA) vs
 | []=>by simp [aQ]
 | v :: r=>by simp only [iE,aQ];exact ⟨v,r,rfl,Sb η q H v,AE η q H r⟩
theorem Nf (η:Nat->Value) (q:Nat->Live) (H:bB) (v:Value):rel η q H (zF v) v:=by
 unfold zF
 split
 ·rename_i cs
  simp only [rel]
  exact ⟨cs.toList,by simp,AE η q H _⟩
 ·exact Sb η q H v
theorem Den.ev (D:Den f s η H a w) (x:Operand):rel η (aW s.b) H (ev s x) (a.eval x):=by
 cases x with
 | tmp t=>exact D.Dh t
 | const v=>exact Nf η _ H v
 | global g=>simp [Vc.ev,Act.eval,rel]
 | func g=>simp only [Vc.ev,Act.eval,rel];exact ⟨[],[],by simp,by simp [aQ],by simp [aQ]⟩
theorem Den.Eu (D:Den f s η H a w):∀xs:List Operand,aQ η (aW s.b) H (xs.map (Vc.ev s)) (xs.map a.eval)
 | []=>by simp [aQ]
 | x :: r=>by simp only [iE,aQ];exact ⟨_,_,rfl,D.ev x,D.Eu r⟩
theorem aiX {v:Value} (h:v.oneCell'=true):v.cells=#[v]:=by
 cases v<;>first|rfl|simp [Value.oneCell'] at h
theorem F9 {q:Nat->Live}:∀{xs:List SV} {vs:List Value},xs.all SV.one=true->aQ η q H xs vs->∀v∈vs,v.oneCell'=true
 | [],vs,_,h,v,hv=>by simp only [aQ] at h;subst h;simp at hv
 | x :: r,vs,ho,h,v,hv=>by
  simp only [aQ] at h
  obtain ⟨u,us,rfl,h1,h2⟩:=h
  simp only [CX,cQ] at ho
  rcases cV.1 hv with rfl|hv
  ·exact y5 ho.1 h1
  ·exact F9 ho.2 h2 v hv
theorem Sd {q:Nat->Live} {x:SV} {v:Value} {ys:List SV} (hc:x.cells?=some ys) (h:rel η q H x v) :
  aQ η q H ys v.cells.toList/\∀u∈v.cells.toList,u.oneCell'=true:=by
 unfold SV.cells? at hc
 split at hc
 ·rename_i cs
  split at hc
  ·rename_i ho
   simp at hc;subst hc
   simp only [rel] at h
   obtain ⟨vs,rfl,h2⟩:=h
   simp only [Value.cells]
   exact ⟨h2,F9 ho h2⟩
  ·cases hc
 ·split at hc
  ·rename_i ho
   simp at hc;subst hc
   have h1:=y5 ho h
   rw [aiX h1]
   refine ⟨by simp only [aQ];exact ⟨v,[],rfl,h,rfl⟩,λu hu=>by simp at hu;subst hu;exact h1⟩
  ·cases hc
theorem Nv {q:Nat->Live} {x:SV} {v:Value} {y:Unit->Bool} (hc:x.Hk=some y) (h:rel η q H x v):v=.bool (y ()):=by
 cases x<;>simp [SV.Hk] at hc<;>subst hc<;>simpa [rel] using h
theorem nK {q:Nat->Live} {x:SV} {v:Value} {k:IntKind} {y:Unit->Int} (hc:x.kJ=some (k,y)) (h:rel η q H x v):v=.int k (y ()):=by
 cases x<;>simp [SV.kJ] at hc<;>obtain ⟨rfl,rfl⟩:=hc<;>simpa [rel] using h
theorem ab0 (D:Den f s η H a w) (x:Operand) (ho:o.op=.move x\/o.op=.assign x) (h:R (Vc.ev s x) []):fD P f s o a w R :=
 eB D (v:=a.eval x) (λw=>by rcases ho with ho|ho<;>simp [execOp,ho]) (D.ev x) h
theorem anE (D:Den f s η H a w) (c x y:Operand) (ho:o.op=.pick c x y) (h:(N4 (Vc.ev s c) (Vc.ev s x) (Vc.ev s y)).K R):fD P f s o a w R:=by
 have hc:=D.ev c
 have hx:=D.ev x
 have hy:=D.ev y
 unfold N4 at h
 split at h
 ·rename_i e;rw [e] at hc;simp only [rel] at hc
  exact eB D (v:=a.eval x) (λw=>by simp [execOp,ho,hc,asBool]) hx h
 ·rename_i e;rw [e] at hc;simp only [rel] at hc
  exact eB D (v:=a.eval y) (λw=>by simp [execOp,ho,hc,asBool]) hy h
 ·rename_i z e;rw [e] at hc;simp only [rel] at hc
  split at h
  ·rename_i f g hf hg
   have h1:=Nv hf hx
   have h2:=Nv hg hy
   refine eB D (v:=if z () then a.eval x else a.eval y) (λw=>by simp [execOp,ho,hc,asBool]) ?_ h
   simp only [rel]
   rw [h1,h2]
   split<;>rfl
  ·exact h.elim
 ·exact h.elim
theorem Yp {op:BinOp} {k:IntKind} {x y:Int} {v:Value} (h:∀w,(match op with
  | .add|.sub|.mul=>Op.intArith op k x y
  | .quo|.rem=>Op.intDiv op k x y
  | .and|.or|.xor|.andNot=>Op.intBits op k x y
  | _=>Op.intCmp op x y:Sem Value).run P w=.ok v w) (hs:De op=false) (t:TypeId) (X Y:Operand) (w:World) :
  (do eqGuard op t X Y (.int k x) (.int k y);binOp op t (.int k x) (.int k y):Sem Value).run P w=.ok v w:=by
 have:=h w
 cases op<;>simp [De] at hs<;>simp_all [eqGuard,binOp]
theorem ak1 (D:Den f s η H a w) (op:BinOp) (t t':TypeId) (x y:Operand) (ho:o.op=.binOp op t x y t') {k:IntKind} {m n:Unit->Int}
  (hs:De op=false) (hx:(Vc.ev s x).kJ=some (k,m)) (hy:(Vc.ev s y).kJ=some (k,n)) (h:(A6 op k m n).K R):fD P f s o a w R:=by
 have h1:=nK hx (D.ev x)
 have h2:=nK hy (D.ev y)
 have main:∀v X,(∀w,(match op with
  | .add|.sub|.mul=>Op.intArith op k (m ()) (n ())
  | .quo|.rem=>Op.intDiv op k (m ()) (n ())
  | .and|.or|.xor|.andNot=>Op.intBits op k (m ()) (n ())
  | _=>Op.intCmp op (m ()) (n ()):Sem Value).run P w=.ok v w)->rel η (aW s.b) H X v->R X []->fD P f s o a w R:=by
  intro v X hv hX hR
  refine eB D (v:=v) (λw=>?_) hX hR
  have:=Yp hv hs t x y w
  simp only [execOp,ho,h1,h2,Sem.run_bind,this,Result.andThen_ok,Sem.run_pure]
 unfold A6 at h
 cases op<;>simp only [eN.K] at h<;>simp only [De] at hs
 case add=>exact main (.int k _) _ (λw=>rfl) (by simp only [rel]) h
 case sub=>exact main (.int k _) _ (λw=>rfl) (by simp only [rel]) h
 case mul=>exact main (.int k _) _ (λw=>rfl) (by simp only [rel]) h
 case quo=>obtain ⟨⟨h0⟩,h⟩:=h;exact main (.int k _) _ (λw=>by simp only [Op.intDiv,h0,if_false];rfl) (by simp only [rel]) h
 case rem=>obtain ⟨⟨h0⟩,h⟩:=h;exact main (.int k _) _ (λw=>by simp only [Op.intDiv,h0,if_false];rfl) (by simp only [rel]) h
 case and=>exact main (.int k _) _ (λw=>rfl) (by simp only [rel,fN]) h
 case or=>exact main (.int k _) _ (λw=>rfl) (by simp only [rel,fN]) h
 case xor=>exact main (.int k _) _ (λw=>rfl) (by simp only [rel,fN]) h
 case andNot=>exact main (.int k _) _ (λw=>rfl) (by simp only [rel,fN]) h
 case eql=>exact main (.bool _) _ (λw=>rfl) (by simp only [rel,eW]) h
 case neq=>exact main (.bool _) _ (λw=>rfl) (by simp only [rel,eW,bne]) h
 case lss=>exact main (.bool _) _ (λw=>rfl) (by simp only [rel,dw]) h
 case leq=>exact main (.bool _) _ (λw=>rfl) (by simp only [rel,gI]) h
 case gtr=>exact main (.bool _) _ (λw=>rfl) (by simp only [rel,dw]) h
 case geq=>exact main (.bool _) _ (λw=>rfl) (by simp only [rel,gI]) h
 all_goals first|exact h.elim|cases hs
theorem ak2 {op:BinOp} {k:IntKind} {m n:Int} (h:(Gg op k m n).K R) :
  ∃X,R X []/\De op=false/\∀(v:Value) (η:Nat->Value) (q:Nat->Live) (H:bB) (Y:SV),
   (A6 op k (λ_=>m) (λ_=>n))=.pure Y []->rel η q H Y v->rel η q H X v:=by
 cases op<;>simp only [Gg,eN.K] at h
 case add|sub|mul|eql|neq|lss|leq|gtr|geq =>
  refine ⟨_,h,rfl,λv η q H Y hY hr=>?_⟩
  simp only [A6,eN.pure.injEq,and_true] at hY
  subst hY
  simpa only [rel] using hr
 all_goals exact h.elim
theorem ari (D:Den f s η H a w) (op:UnOp) (t:TypeId) (x:Operand) (ho:o.op=.unOp op t x) (h:(Ps op (Vc.ev s x)).K R):fD P f s o a w R:=by
 have hx:=D.ev x
 unfold Ps at h
 split at h<;>first|exact h.elim|skip
 all_goals
  rename_i e
  rw [e] at hx
  simp only [rel] at hx
 case h_3 =>
  rename_i d p _
  obtain ⟨c,hc,hp⟩:=hx
  refine eB D (v:=.bool (!c)) (λw=>by simp [execOp,ho,hc,Op.unary]) (by simp only [rel];exact ⟨!c,rfl,λe=>hp (by cases c<;>cases d<;>simp_all)⟩) h
 case h_6 =>
  split at h<;>first|exact h.elim|skip
  rename_i hs
  exact eB D (v:=.int _ _) (λw=>by simp only [execOp,ho,hx,Op.unary,hs,if_true];rfl) (by simp only [rel,fN]) h
 all_goals
  refine eB D (v:=_) (λw=>by simp [execOp,ho,hx,Op.unary,Op.intArith];rfl) (by simp [rel]) h
theorem anF (C:X.Ok P) (D:Den f s η H a w) (src dst:TypeId) (x:Operand) (ho:o.op=.convert src dst x) (h:(N5 X src dst (Vc.ev s x)).K R):fD P f s o a w R:=by
 have hx:=D.ev x
 unfold N5 at h
 split at h
 ·rename_i i j hi hj
  have Ii:=C.tt _ _ hi
  have Ij:=C.tt _ _ hj
  have Vv:∃d,P.underlying src=some d:=by
   have:=Ii.desc
   split at this
   all_goals first
    | exact ⟨_,this⟩
    | (obtain ⟨d,h,_⟩:=this;exact ⟨_,h⟩)
  obtain ⟨d,hd⟩:=Vv
  have td:=Ij.desc
  split at h<;>first|exact h.elim|skip
  ·rename_i k k' n e1 e2
   rw [e1] at td;rw [e2] at hx
   simp only [rel] at hx
   refine eB D (v:=.int k (k.wrap n)) (λw=>by simp [execOp,ho,hx,convert,run_underlying hd,run_underlying td,Conv.intToInt]) (by simp [rel]) h
  ·rename_i k k' n e1 e2
   rw [e1] at td;rw [e2] at hx
   simp only [rel] at hx
   refine eB D (v:=.int k (k.wrap (n ()))) (λw=>by simp [execOp,ho,hx,convert,run_underlying hd,run_underlying td,Conv.intToInt]) (by simp [rel]) h
  ·rename_i y e1 e2
   rw [e1] at td;rw [e2] at hx
   simp only [rel] at hx
   refine eB D (v:=.string (y ())) (λw=>by simp [execOp,ho,hx,convert,run_underlying hd,run_underlying td]) (by simp [rel]) h
 ·exact h.elim
end
section
variable {P:Program} {X:Ctx} {f:Fr} {s:St} {η:Nat->Value} {H:bB} {a:Act} {w:World} {o:Oper} {R:SV->List (Nat × Slot)->Prop}
theorem aaY {q:Nat->Live} {x y:SV} {u v:Value} {g:Unit->Bool} (he:OF x y=some g) (hx:rel η q H x u) (hy:rel η q H y v) :
  Be u v=g ()/\vf u v=true:=by
 unfold OF at he
 split at he
 case h_10=>cases he
 all_goals
  simp only [rel] at hx hy
  subst hx
  subst hy
 case h_1|h_2|h_3|h_4=>simp at he;subst he;exact ⟨rfl,rfl⟩
 case h_5|h_6|h_7|h_8 =>
  split at he
  ·rename_i hk;subst hk;simp at he;subst he;exact ⟨rfl,by simp [vf]⟩
  ·cases he
 case h_9=>simp at he;subst he;exact ⟨rfl,rfl⟩
theorem Se {q:Nat->Live}:∀{xs ys:List SV} {us vs:List Value} {g:Unit->Bool},Bi xs ys=some g->aQ η q H xs us->aQ η q H ys vs ->
  sO us vs=g ()/\qg us vs=true
 | [],[],us,vs,g,he,hx,hy=>by
  simp only [aQ] at hx hy;subst hx;subst hy;simp [Bi] at he;subst he;exact ⟨rfl,rfl⟩
 | x :: xs,y :: ys,us,vs,g,he,hx,hy=>by
  simp only [aQ] at hx hy
  obtain ⟨u,us,rfl,h1,h2⟩:=hx
  obtain ⟨v,vs,rfl,h3,h4⟩:=hy
  simp only [Bi] at he
  split at he
  ·rename_i f g' hf hg
   simp at he;subst he
   have a1:=aaY hf h1 h3
   have a2:=Se hg h2 h4
   simp [sO,qg,a1,a2]
  ·cases he
 | [],y :: ys,us,vs,g,he,hx,hy=>by simp [Bi] at he
 | x :: xs,[],us,vs,g,he,hx,hy=>by simp [Bi] at he
theorem run_equalIn_bool {t:TypeId} (hd:P.underlying t=some .bool) (d:Nat) (x y:Bool) (w:World) :
  (Op.equalIn (d+1) t (.bool x) (.bool y)).run P w=.ok (x == y) w:=by
 simp [Op.equalIn,run_underlying hd]
theorem run_equal_bool {t:TypeId} (hd:P.underlying t=some .bool) (x y:Bool) (w:World) :
 (Op.equal t (.bool x) (.bool y)).run P w=.ok (x == y) w:=run_equalIn_bool hd 9999 x y w
theorem aj7 {q:Nat->Live} {x y:SV} {u v:Value} {p:Unit->Prop} (hp:Td x y=some p) (hx:rel η q H x u) (hy:rel η q H y v) :
  ∃a n c b m d,u=.slice a n c/\v=.slice b m d/\(a=none\/b=none)/\((a.isNone&&b.isNone)=true->p ()):=by
 have own:∀{l:Nat} {u:Value},rel η q H (.own l) u->∃a n c,u=.slice a n c:=by
  intro l u h
  simp only [rel] at h
  split at h
  ·exact h.elim
  ·exact h
  ·exact h.2
 unfold Td at hp
 split at hp<;>simp at hp
 ·subst hp
  simp only [rel] at hx hy
  obtain ⟨⟨ad,cap,h1,h2,h3⟩,_⟩:=hx
  refine ⟨_,_,_,_,_,_,h1,hy,.inr rfl,λh=>?_⟩
  rcases h3 with h3|⟨a,rfl,_⟩
  ·exact h3
  ·simp at h
 ·subst hp
  simp only [rel] at hx hy
  obtain ⟨⟨ad,cap,h1,h2,h3⟩,_⟩:=hy
  refine ⟨_,_,_,_,_,_,hx,h1,.inl rfl,λh=>?_⟩
  rcases h3 with h3|⟨a,rfl,_⟩
  ·exact h3
  ·simp at h
 ·subst hp
  obtain ⟨a,n,c,h⟩:=own hx
  simp only [rel] at hy
  exact ⟨_,_,_,_,_,_,h,hy,.inr rfl,λ_=>trivial⟩
 ·subst hp
  obtain ⟨a,n,c,h⟩:=own hy
  simp only [rel] at hx
  exact ⟨_,_,_,_,_,_,hx,h,.inl rfl,λ_=>trivial⟩
theorem aiH {t e:TypeId} (hd:P.underlying t=some (.slice e)) (k:Nat) (a b:Option Addr) (n c m d:Nat) (gl:a=none\/b=none) (w:World) :
  (Op.equalIn (k+1) t (.slice a n c) (.slice b m d)).run P w=.ok (a.isNone&&b.isNone) w:=by
 rcases gl with rfl|rfl
 ·simp [Op.equalIn,run_underlying hd]
 ·cases a<;>simp [Op.equalIn,run_underlying hd]
theorem QG {t e:TypeId} (hd:P.underlying t=some (.slice e)) (a b:Option Addr) (n c m d:Nat) (gl:a=none\/b=none) (w:World) :
 (Op.equal t (.slice a n c) (.slice b m d)).run P w=.ok (a.isNone&&b.isNone) w:=aiH hd 9999 a b n c m d gl w
theorem aiK {t k e:TypeId} (hd:P.underlying t=some (.map k e)) (d:Nat) (a b:Option Nat) (gl:a=none\/b=none) (w:World) :
  (Op.equalIn (d+1) t (.map a) (.map b)).run P w=.ok (a.isNone&&b.isNone) w:=by
 unfold Op.equalIn
 simp only [Sem.run_bind,run_underlying hd,Result.andThen_ok]
 rcases gl with rfl|rfl
 ·simp
 ·cases a<;>simp
theorem XH {t k e:TypeId} (hd:P.underlying t=some (.map k e)) (a b:Option Nat) (gl:a=none\/b=none) (w:World) :
 (Op.equal t (.map a) (.map b)).run P w=.ok (a.isNone&&b.isNone) w:=aiK hd 9999 a b gl w
theorem YW {q:Nat->Live} {x y:SV} {v u:Value} {d:Bool} {p:Unit->Prop} (h:Te x y=some (d,p)) (hx:rel η q H x v) (hy:rel η q H y u) (hp:p ()) :
  ∃a b:Option Nat,v=.map a/\u=.map b/\(a=none\/b=none)/\d=(a.isNone&&b.isNone):=by
 unfold Te at h
 split at h<;>simp at h
 ·obtain ⟨rfl,rfl⟩:=h
  simp only [rel] at hx hy
  exact ⟨none,none,hx.trans hp.1,hy.trans hp.2,.inl rfl,rfl⟩
 ·obtain ⟨rfl,rfl⟩:=h
  simp only [rel] at hx hy
  obtain ⟨Ev,n,hn⟩:=hp
  rcases hx.1 with ⟨_,h2⟩|⟨r,_,_,h1,_⟩
  ·exact absurd (h2 n) hn
  ·exact ⟨some r,none,h1,hy.trans Ev,.inr rfl,rfl⟩
 ·obtain ⟨rfl,rfl⟩:=h
  simp only [rel] at hx hy
  obtain ⟨Ev,n,hn⟩:=hp
  rcases hy.1 with ⟨_,h2⟩|⟨r,_,_,h1,_⟩
  ·exact absurd (h2 n) hn
  ·exact ⟨none,some r,hx.trans Ev,h1,.inl rfl,rfl⟩
theorem apC (C:X.Ok P) (D:Den f s η H a w) (op:BinOp) (t t':TypeId) (x y:Operand) (ho:o.op=.binOp op t x y t')
  (h:(OG X op t (Vc.ev s x) (Vc.ev s y)).K R):fD P f s o a w R:=by
 have hx:=D.ev x
 have hy:=D.ev y
 unfold OG at h
 split at h
 ·rename_i hs
  split at h
  ·rename_i k m k' n h1 h2
   obtain ⟨⟨h0⟩,h⟩:=h
   have e1:=nK h1 hx
   have e2:=nK h2 hy
   have hn:¬n () < 0:=by omega
   cases op<;>simp only [De] at hs<;>first|cases hs|skip
   ·refine eB D (v:=.int k (k.wrap (m ()*2^min (n ()).toNat k.bits))) (λw=>?_) (by simp only [rel]) h
    simp [execOp,ho,e1,e2,eqGuard,binOp,Op.shift,hn]
   ·refine eB D (v:=.int k ((m ()).fdiv (2^min (n ()).toNat k.bits))) (λw=>?_) (by simp only [rel]) h
    simp [execOp,ho,e1,e2,eqGuard,binOp,Op.shift,hn]
  ·exact h.elim
 ·rename_i hs
  split at h
  ·rename_i k m k' n hl ex ey
   split at h
   ·rename_i hk
    subst hk
    obtain ⟨Y,hR,_,hY⟩:=ak2 h
    have hp:∃Z,A6 op k (λ_=>m) (λ_=>n)=.pure Z []:=by
     cases op<;>simp only [Gg,eN.K] at h<;>first|exact h.elim|exact ⟨_,rfl⟩
    obtain ⟨Z,hZ⟩:=hp
    have e1:a.eval x=.int k m:=by rw [ex] at hx;simpa only [rel] using hx
    have e2:a.eval y=.int k n:=by rw [ey] at hy;simpa only [rel] using hy
    have main:∀v,(∀w,(match op with
      | .add|.sub|.mul=>Op.intArith op k m n
      | .quo|.rem=>Op.intDiv op k m n
      | .and|.or|.xor|.andNot=>Op.intBits op k m n
      | _=>Op.intCmp op m n:Sem Value).run P w=.ok v w)->rel η (aW s.b) H Z v->fD P f s o a w R:=by
     intro v hv hr
     refine eB D (v:=v) (λw=>?_) (hY v η _ H Z hZ hr) hR
     have:=Yp hv hs t x y w
     simp only [execOp,ho,e1,e2,Sem.run_bind,this,Result.andThen_ok,Sem.run_pure]
    cases op<;>simp only [Gg,eN.K] at h<;>first|exact h.elim|skip
    all_goals
     simp only [A6,eN.pure.injEq,and_true] at hZ
     subst hZ
    ·exact main (.int k _) (λw=>rfl) (by simp only [rel])
    ·exact main (.int k _) (λw=>rfl) (by simp only [rel])
    ·exact main (.int k _) (λw=>rfl) (by simp only [rel])
    ·exact main (.bool _) (λw=>rfl) (by simp only [rel,eW])
    ·exact main (.bool _) (λw=>rfl) (by simp only [rel,eW,bne])
    ·exact main (.bool _) (λw=>rfl) (by simp only [rel,dw])
    ·exact main (.bool _) (λw=>rfl) (by simp only [rel,gI])
    ·exact main (.bool _) (λw=>rfl) (by simp only [rel,dw])
    ·exact main (.bool _) (λw=>rfl) (by simp only [rel,gI])
   ·exact h.elim
  ·split at h
   ·rename_i k m k' n h1 h2
    split at h
    ·rename_i hk
     subst hk
     exact ak1 D op t t' x y ho hs h1 h2 h
    ·exact h.elim
   ·split at h
    ·rename_i m n e1 e2
     rw [e1] at hx;rw [e2] at hy
     simp only [rel] at hx hy
     split at h
     ·obtain ⟨⟨h0⟩,h⟩:=h
      have h3:¬(9223372036854775807 < ((m ()).size:Int)+((n ()).size:Int)):=by omega
      refine eB D (v:=.string (m ()++n ())) (λw=>?_) (by simp only [rel]) h
      simp [execOp,ho,hx,hy,eqGuard,binOp,Op.stringOp,IntKind.max,IntKind.signed,IntKind.bits,h3]
     all_goals first|exact h.elim|skip
     ·refine eB D (v:=.bool _) (λw=>?_) (by simp only [rel];rfl) h
      simp [execOp,ho,hx,hy,eqGuard,binOp,Op.stringOp,xQ,xG]
     ·refine eB D (v:=.bool _) (λw=>?_) (by simp only [rel];rfl) h
      simp [execOp,ho,hx,hy,eqGuard,binOp,Op.stringOp,xQ,xG]
     ·refine eB D (v:=.bool _) (λw=>?_) (by simp only [rel];rfl) h
      simp [execOp,ho,hx,hy,eqGuard,binOp,Op.stringOp,xQ,xG]
     ·refine eB D (v:=.bool _) (λw=>?_) (by simp only [rel];rfl) h
      simp [execOp,ho,hx,hy,eqGuard,binOp,Op.stringOp,xQ,xG]
     ·refine eB D (v:=.bool _) (λw=>?_) (by simp only [rel];rfl) h
      simp [execOp,ho,hx,hy,eqGuard,binOp,Op.stringOp,xQ,xG]
     ·refine eB D (v:=.bool _) (λw=>?_) (by simp only [rel];rfl) h
      simp [execOp,ho,hx,hy,eqGuard,binOp,Op.stringOp,xQ,xG]
    ·rename_i cs ds e1 e2
     split at h
     ·rename_i i hi
      split at h
      ·rename_i hc
       simp only [cQ,beq_iff_eq] at hc
       split at h
       ·rename_i g g' hg kq
        have I:=C.tt _ _ hi
        rw [e1] at hx;rw [e2] at hy
        simp only [rel] at hx hy
        obtain ⟨vs,rY,iK⟩:=hx
        obtain ⟨us,jB,mH⟩:=hy
        have a1:=Se hg iK mH
        have a2:=Se kq iK (AE η _ H _)
        have run:=λw Kz=>(I.flat hc.1.1).2 vs us w (by rw [jn iK];exact hc.1.2) (by rw [jn mH];exact hc.2) a1.2 a2.2 Kz x y
        split at h
        ·refine eB D (v:=.bool _) (λw=>?_) (by simp only [rel];rw [<-a1.1]) h
         have:=run w .eql (.inl rfl)
         simp only [execOp,ho,rY,jB]
         rw [Sem.run_bind,this]
         simp
        ·refine eB D (v:=.bool _) (λw=>?_) (by simp only [rel];rw [<-a1.1]) h
         have:=run w .neq (.inr rfl)
         simp only [execOp,ho,rY,jB]
         rw [Sem.run_bind,this]
         simp
        ·exact h.elim
       ·exact h.elim
      ·exact h.elim
     ·exact h.elim
    ·split at h
     ·rename_i i hi
      have I:=C.tt _ _ hi
      have hd:=I.desc
      split at h
      ·rename_i ed
       rw [ed] at hd
       split at h
       ·rename_i g m n hg hm hn
        have e1:=Nv hm hx
        have e2:=Nv hn hy
        have a1:=aaY hg hx hy
        rw [e1,e2] at a1
        have a3:(m () == n ())=g ():=a1.1
        split at h
        ·refine eB D (v:=.bool (g ())) (λw=>?_) (by simp only [rel]) h
         simp [execOp,ho,e1,e2,eqGuard,binOp,run_equal_bool hd,a3]
        ·refine eB D (v:=.bool (!g ())) (λw=>?_) (by simp only [rel]) h
         simp [execOp,ho,e1,e2,eqGuard,binOp,run_equal_bool hd,a3]
        ·exact h.elim
       ·exact h.elim
      ·rename_i ek e ed
       rw [ed] at hd
       split at h
       ·rename_i d p hp
        split at h
        ·obtain ⟨⟨KA⟩,h⟩:=h
         obtain ⟨a1,b1,e1,e2,gl,rfl⟩:=YW hp hx hy KA
         refine eB D (v:=.bool _) (λw=>?_) (by simp only [rel];rfl) h
         simp [execOp,ho,e1,e2,eqGuard,binOp,XH hd a1 b1 gl]
        ·obtain ⟨⟨KA⟩,h⟩:=h
         obtain ⟨a1,b1,e1,e2,gl,rfl⟩:=YW hp hx hy KA
         refine eB D (v:=.bool _) (λw=>?_) (by simp only [rel];rfl) h
         simp [execOp,ho,e1,e2,eqGuard,binOp,XH hd a1 b1 gl]
        ·exact h.elim
       ·exact h.elim
      ·rename_i e ed
       rw [ed] at hd
       have fin:∀(u b:Option Addr) (n c m d:Nat),a.eval x=.slice u n c->a.eval y=.slice b m d->(u=none\/b=none)->∀(Y:SV) (r:Bool),(op=.eql/\r=(u.isNone&&b.isNone)\/op=.neq/\r=!(u.isNone&&b.isNone)) ->
         rel η (aW s.b) H Y (.bool r)->R Y []->fD P f s o a w R:=by
        intro u b n c m d e1 e2 Pt Y r hr hY hR
        refine eB D (v:=.bool r) (λw=>?_) hY hR
        rcases hr with ⟨rfl,rfl⟩|⟨rfl,rfl⟩<;>simp [execOp,ho,e1,e2,eqGuard,binOp,QG hd u b n c m d Pt]
       split at h
       ·rename_i p hp
        obtain ⟨u,n,c,b,m,d,e1,e2,Pt,hq⟩:=aj7 hp hx hy
        split at h
        ·exact fin u b n c m d e1 e2 Pt _ _ (.inl ⟨rfl,rfl⟩) (by simp only [rel];exact ⟨_,rfl,hq⟩) h
        ·exact fin u b n c m d e1 e2 Pt _ _ (.inr ⟨rfl,rfl⟩) (by simp only [rel];exact ⟨_,rfl,λe=>hq (by simpa using e)⟩) h
        ·exact h.elim
       ·split at h
        ·rename_i e1 e2 _
         rw [e1] at hx;rw [e2] at hy
         simp only [rel] at hx hy
         exact fin _ _ _ _ _ _ hx hy (.inl rfl) _ _ (.inl ⟨rfl,rfl⟩) (by simp only [rel];rfl) h
        ·rename_i e1 e2 _
         rw [e1] at hx;rw [e2] at hy
         simp only [rel] at hx hy
         exact fin _ _ _ _ _ _ hx hy (.inl rfl) _ _ (.inr ⟨rfl,rfl⟩) (by simp only [rel];rfl) h
        ·exact h.elim
      ·exact h.elim
     ·exact h.elim
end
end Go.Vc
