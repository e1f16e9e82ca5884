import Derived.Test.YthnhbemmlfaihaaGreatO0
set_option linter.unusedVariables false
set_option linter.unusedSimpArgs false
set_option maxRecDepth 10000
set_option maxHeartbeats 64000000
namespace Go.Vc
open Go
structure yD (p:Unit->Prop):Prop where
 out:p ()
structure yN (x:Unit->Bool):Prop where
 out:x ()=true
structure yO (x:Unit->Bool):Prop where
 out:x ()=false
structure Hyp (p:Unit->Prop):Prop where
 out:p ()
section
variable {η:Nat->Value} {H:bu}
theorem amV {x:Unit->Value} (ho:(SV.v x).one=true):(x ()).oneCell'=true:=by
 unfold SV.one at ho
 simp only at ho
 split at ho<;>first|(rename_i e;rw [e];rfl)|cases ho
theorem yj {q:Nat->Live} {x:SV} {v:Value} (ho:x.one=true) (h:rel η q H x v):v.oneCell'=true:=by
 cases x<;>first|(have hv:=amV ho;simp only [rel] at h;rw [h];exact hv)|skip
 all_goals (simp [SV.one] at ho)<;>simp only [rel] at h
 case bc=>subst h;rfl
 case b=>subst h;rfl
 case nb=>obtain ⟨c,rfl,_⟩:=h;rfl
 case ic=>subst h;rfl
 case i=>subst h;rfl
 case str=>subst h;rfl
 case cell=>exact h
 case cQ=>subst h;rfl
 case ptr l off =>
  split at h
  ·exact h.elim
  ·obtain ⟨x,rfl⟩:=h;rfl
  ·obtain ⟨bl,_,rfl⟩:=h;rfl
 case gh l sz i off =>
  split at h
  ·exact h.elim
  ·obtain ⟨x,rfl⟩:=h;rfl
  ·obtain ⟨bl,n,c,_,rfl⟩:=h;rfl
 case own l =>
  split at h
  ·exact h.elim
  ·obtain ⟨x,n,c,rfl⟩:=h;rfl
  ·obtain ⟨_,x,n,c,rfl⟩:=h;rfl
 case eU l sz m n =>
  split at h
  ·exact h.elim
  ·obtain ⟨x,n,c,rfl⟩:=h;rfl
  ·obtain ⟨x,n,c,rfl⟩:=h.isSlice;rfl
 case ew=>obtain ⟨ad,rfl,_⟩:=h;rfl
 case sl=>obtain ⟨⟨ad,cap,rfl,_⟩,_⟩:=h;rfl
 case dV=>obtain ⟨ad,rfl,_⟩:=h;rfl
 case fn=>obtain ⟨fs,cs,rfl,_⟩:=h;rfl
 case mC=>obtain ⟨y,rfl,_⟩:=h;rfl
 case gq=>obtain ⟨⟨ad,rfl,_⟩,_⟩:=h;rfl
 case mp=>rcases h.1 with ⟨rfl,_⟩|⟨_,_,_,rfl,_⟩<;>rfl
 case gn l =>
  split at h
  ·exact h.elim
  ·obtain ⟨x,rfl⟩:=h;rfl
  ·obtain ⟨_,x,rfl⟩:=h;rfl
 case gy l =>
  split at h
  ·exact h.elim
  ·obtain ⟨x,rfl⟩:=h;rfl
  ·obtain ⟨bl,_,rfl⟩:=h;rfl
end
mutual
inductive Le:SV->SV->Prop
 | refl (x:SV):Le x x
 | any (x:SV):Le x .any
 | cell {x:SV}:x.one=true->Le x .cell
 | b {x y:Unit->Bool}:x ()=y ()->Le (.b x) (.b y)
 | bc {c:Bool} {y:Unit->Bool}:c=y ()->Le (.bc c) (.b y)
 | Ic {x:Unit->Bool} {c:Bool}:x ()=c->Le (.b x) (.bc c)
 | i {k:IntKind} {x y:Unit->Int}:x ()=y ()->Le (.i k x) (.i k y)
 | ic {k:IntKind} {n:Int} {y:Unit->Int}:n=y ()->Le (.ic k n) (.i k y)
 | ab0 {k:IntKind} {x:Unit->Int} {n:Int}:x ()=n->Le (.i k x) (.ic k n)
 | str {x y:Unit->ByteArray}:x ()=y ()->Le (.str x) (.str y)
 | v {x y:Unit->Value}:x ()=y ()->Le (.v x) (.v y)
 | agg {cs ds:List SV}:dA cs ds->Le (.agg cs) (.agg ds)
 | opt {T:Type} {p:T->Prop} {y:SV} {x:T->SV} (t:T):p t->(∀t,LF (x t))->Le y (x t)->Le y (.opt p x)
 | cM {cs ds:List SV}:dA cs ds->Le (.cM cs) (.cM ds)
 | sl {T:Type} {sz:Nat} {c:T->List SV} {xs ys:Unit->List T}:xs ()=ys ()->Le (.sl sz c xs) (.sl sz c ys)
 | slm {T T':Type} {sz:Nat} {c:T->List SV} {c':T'->List SV} {xs:Unit->List T} {ys:Unit->List T'}:(xs ()).length=(ys ()).length->(∀x,cN (c' x)) ->
  (∀(j:Nat) (x:T) (y:T'),(xs ())[j]?=some x->(ys ())[j]?=some y->dA (c x) (c' y))->Le (.sl sz c xs) (.sl sz c' ys)
 | cQ {T:Type} {sz:Nat} {c:T->List SV} {ys:Unit->List T}:ys ()=[]->(∀x,cN (c x))->Le .cQ (.sl sz c ys)
 | ew {T:Type} {cs:List SV} {n sz:Nat} {c:T->List SV} {ys:Unit->List T}:(ys ()).length=n->(∀y∈ys (),(c y).length=sz)->(∀x,cN (c x)) ->
  dA cs ((ys ()).flatMap c)->Le (.ew cs n) (.sl sz c ys)
 | dV {cs ds:List SV} {off:Nat}:dA cs ds->Le (.dV cs off) (.dV ds off)
 | gh {l sz:Nat} {i j:Unit->Nat} {off:Nat}:i ()=j ()->Le (.gh l sz i off) (.gh l sz j off)
 | eU {l sz:Nat} {m n m' n':Unit->Nat}:m ()=m' ()->n ()=n' ()->Le (.eU l sz m n) (.eU l sz m' n')
 | mp {T:Type} {k:KD} {c:T->List SV} {m m':Unit->k.T->Option T}:m ()=m' ()->Le (.mp k c m) (.mp k c m')
 | gq {T:Type} {sz:Nat} {c:T->List SV} {xs ys:Unit->List T}:xs ()=ys ()->Le (.gq sz c xs) (.gq sz c ys)
 | pP {T:Type} {sz:Nat} {c:T->List SV} {xs ys:Unit->List T}:xs ()=ys ()->Le (.gq sz c xs) (.sl sz c ys)
 | aox {T:Type} {k:KD} {c:T->List SV} {x:Unit->Value} {m:Unit->k.T->Option T}:x ()=.map none->(∀n,m () n=none)->(∀x,cN (c x))->Le (.v x) (.mp k c m)
 | fn {f:Fn} {cs ds yP ds':List SV}:dA cs ds->dA yP ds'->Le (.fn f cs yP) (.fn f ds ds')
inductive dA:List SV->List SV->Prop
 | nil:dA [] []
 | cons {x y:SV} {xs ys:List SV}:Le x y->dA xs ys->dA (x :: xs) (y :: ys)
end
theorem DZ {η:Nat->Value} {q:Nat->Live} {H:bu} {s s':List SV} {v:List Value} (h:aP η q H (s++s') v) :
  aP η q H s (v.take s.length)/\aP η q H s' (v.drop s.length):=by
 have h1:=El h s.length
 have h2:=Ek h s.length
 simp only [Eg,List.drop_left] at h1 h2
 exact ⟨h1,h2⟩
theorem zw {η:Nat->Value} {q:Nat->Live} {H:bu} {T:Type} {c:T->List SV} {sz:Nat} :
  ∀{xs:List T} {v:List Value},(∀x∈xs,(c x).length=sz)->aP η q H (xs.flatMap c) v->∀(j:Nat) (x:T),xs[j]?=some x ->
   aP η q H (c x) ((v.drop (j*sz)).take sz)
 | [],v,_,_,j,x,hx=>by simp at hx
 | y :: r,v,hl,h,j,x,hx=>by
  have hy:(c y).length=sz:=hl y (by simp)
  rw [qR] at h
  obtain ⟨h1,h2⟩:=DZ h
  rw [hy] at h1 h2
  cases j with
  | zero=>simp at hx;subst hx;simpa using h1
  | succ j =>
   have:=zw (λx hx=>hl x (by simp [hx])) h2 j x (by simpa using hx)
   rw [List.drop_drop] at this
   rw [show (j+1)*sz=sz+j*sz by rw [Nat.add_mul];omega]
   exact this
mutual
theorem uq {η:Nat->Value} {q:Nat->Live} {H:bu}:∀{x y:SV},Le x y->∀{v:Value},rel η q H x v->rel η q H y v
 | _,_,.refl _,_,h=>h
 | _,_,.any _,_,_=>by simp [rel]
 | _,_,.cell h1,_,h=>by simp only [rel];exact yj h1 h
 | _,_,.b e,_,h=>by simp only [rel] at h ⊢;rw [<-e];exact h
 | _,_,.bc e,_,h=>by simp only [rel] at h ⊢;rw [<-e];exact h
 | _,_,.Ic e,_,h=>by simp only [rel] at h ⊢;rw [<-e];exact h
 | _,_,.i e,_,h=>by simp only [rel] at h ⊢;rw [<-e];exact h
 | _,_,.ic e,_,h=>by simp only [rel] at h ⊢;rw [<-e];exact h
 | _,_,.ab0 e,_,h=>by simp only [rel] at h ⊢;rw [<-e];exact h
 | _,_,.str e,_,h=>by simp only [rel] at h ⊢;rw [<-e];exact h
 | _,_,.v e,_,h=>by simp only [rel] at h ⊢;rw [<-e];exact h
 | _,_,.agg e,_,h=>by
  simp only [rel] at h ⊢
  obtain ⟨vs,h1,h2⟩:=h
  exact ⟨vs,h1,jH e h2⟩
 | _,_,.opt t ht cv e,_,h=>by
  simp only [rel]
  exact ⟨⟨t,ht,uq e h⟩,cv⟩
 | _,_,.cM e,_,h=>by
  simp only [rel] at h ⊢
  obtain ⟨vs,h1,h2⟩:=h
  exact ⟨vs,h1,jH e h2⟩
 | _,_,.sl e,_,h=>by simp only [rel] at h ⊢;rw [<-e];exact h
 | _,_,@Le.slm T T' sz c c' xs ys e1 cv e2,_,h=>by
  simp only [rel] at h ⊢
  obtain ⟨⟨ad,cap,h1,h0,h2⟩,_⟩:=h
  refine ⟨⟨ad,cap,by rw [<-e1];exact h1,by omega,?_⟩,cv⟩
  rcases h2 with h2|⟨a,h3,h4,h5⟩
  ·left;exact iV (by rw [<-e1,h2];rfl)
  ·right
   refine ⟨a,h3,h4,λj y hy=>?_⟩
   have hj:j < (xs ()).length:=by rw [e1];exact (a7.1 hy).1
   obtain ⟨vals,g1,g2,g3⟩:=h5 j _ (ea hj)
   exact ⟨vals,g1,jH (e2 j _ y (ea hj) hy) g2,g3⟩
 | _,_,.cQ e cv,_,h=>by simp only [rel] at h ⊢;rw [e];exact ⟨⟨none,0,h,by simp,.inl rfl⟩,cv⟩
 | _,_,@Le.ew T cs n sz c ys e1 e2 cv e3,_,h=>by
  simp only [rel] at h ⊢
  obtain ⟨ad,h1,h2⟩:=h
  refine ⟨⟨ad,n,by rw [e1];exact h1,by omega,?_⟩,cv⟩
  rcases h2 with h2|⟨a,h3,h4,vals,h5,h6⟩
  ·left;exact iV (by omega)
  ·right
   refine ⟨a,h3,h4,λj x hx=>?_⟩
   have h7:=jH e3 h5
   have h8:=zw e2 h7 j x hx
   refine ⟨_,?_,h8,?_⟩
   ·rw [jj h8];exact e2 x (cf hx)
   ·intro i u hu
    rw [lO] at hu
    split at hu
    ·rw [kb] at hu
     have:=h6 _ u hu
     rwa [<-Nat.add_assoc] at this
    ·cases hu
 | _,_,.dV e,_,h=>by
  simp only [rel] at h ⊢
  obtain ⟨a,h1,vals,h2,h3⟩:=h
  exact ⟨a,h1,vals,jH e h2,h3⟩
 | _,_,.gh e,_,h=>by simp only [rel] at h ⊢;rw [<-e];exact h
 | _,_,.eU e e',_,h=>by simp only [rel] at h ⊢;rw [<-e,<-e'];exact h
 | _,_,.mp e,_,h=>by simp only [rel] at h ⊢;rw [<-e];exact h
 | _,_,.gq e,_,h=>by simp only [rel] at h ⊢;rw [<-e];exact h
 | _,_,.pP e,_,h=>by
  simp only [rel] at h ⊢
  rw [<-e]
  obtain ⟨⟨ad,h1,h2⟩,cv⟩:=h
  exact ⟨⟨ad,_,h1,fb _,h2⟩,cv⟩
 | _,_,.aox e e' cv,_,h=>by simp only [rel] at h ⊢;exact ⟨.inl ⟨h.trans e,e'⟩,cv⟩
 | _,_,.fn e e',_,h=>by
  simp only [rel] at h ⊢
  obtain ⟨fs,cs,h1,h2,h3⟩:=h
  exact ⟨fs,cs,h1,jH e h2,jH e' h3⟩
theorem jH {η:Nat->Value} {q:Nat->Live} {H:bu}:∀{x y:List SV},dA x y->∀{v:List Value},aP η q H x v->aP η q H y v
 | _,_,.nil,_,h=>h
 | _,_,.cons e r,_,h=>by
  simp only [aP] at h ⊢
  obtain ⟨u,us,h1,h2,h3⟩:=h
  exact ⟨u,us,h1,uq e h2,jH r h3⟩
end
inductive TD where
 | int (k:IntKind)
 | bool
 | str
 | sl (e:TypeId)
 | ptr (e:TypeId)
 | st (fs:List (TypeId × Nat × Nat))
 | arr (n:Nat) (e:TypeId)
 | map (k v:TypeId)
 | other
structure TI where
 d:TD
 size:Nat
 bytes:Nat
 zero:Value
 flat:Bool:=false
 kd:Option (List IntKind):=none
def TI.agg (i:TI):Bool:=match i.d with|.st _|.arr _ _=>true|_=>false
def Aj:Value->Value->Bool
 | .bool a,.bool b=>a == b
 | .int k a,.int k' b=>a == b
 | .string a,.string b=>a == b
 | _,_=>false
def rV:List Value->List Value->Bool
 | a :: as,b :: bs=>Aj a b&&rV as bs
 | _,_=>true
def um:Value->Value->Bool
 | .bool _,.bool _=>true
 | .int k _,.int k' _=>k == k'
 | .string _,.string _=>true
 | _,_=>false
def pH:List Value->List Value->Bool
 | a :: as,b :: bs=>um a b&&pH as bs
 | [],[]=>true
 | _,_=>false
structure Ak (P:Program) (kt:TypeId) (k:KD):Prop where
 check:∀(n:k.T),k.ok n->∀em w,(Instr.checkKey em 10000 kt (k.enc n)).run P w=.ok () w
 find:∀(n:k.T),k.ok n->∀(es:List MapEntry),(∀e∈es,∃n',k.ok n'/\e.key=k.enc n')->∀w,
  ((Instr.findKey kt (k.enc n) es).run P w=.ok none w/\∀e∈es,e.key≠k.enc n)\/∃j e,(Instr.findKey kt (k.enc n) es).run P w=.ok (some (j,e.val)) w/\es[j]?=some e/\e.key=k.enc n
 stays:∀(n:k.T),k.ok n->∀w,(Instr.keyThatStays (k.enc n) (k.enc n)).run P w=.ok (k.enc n) w
structure my (P:Program) (t:TypeId) (i:TI):Prop where
 info:∃inf,P.info? t=some inf/\inf.size=i.size/\inf.bytes=i.bytes/\inf.zero=some i.zero
 yu:i.zero.cells.size=i.size
 pos:0 < i.size
 desc:match i.d with
  | .int k=>P.underlying t=some (.int k)
  | .bool=>P.underlying t=some .bool
  | .str=>P.underlying t=some .string
  | .sl e=>P.underlying t=some (.slice e)
  | .ptr e=>P.underlying t=some (.pointer e)
  | .st gs=>∃fs:Array Field,P.underlying t=some (.struct fs)/\fs.size=gs.length /\
    ∀(j:Nat) (f:Field),fs[j]?=some f->∃inf,P.info? f.type=some inf/\inf.size≠0/\gs[j]?=some (f.type,f.offset,inf.size)
  | .arr n e=>P.underlying t=some (.array n e)
  | .map k v=>P.underlying t=some (.map k v)
  | .other=>∃d,P.underlying t=some d/\(∀x,d≠.struct x)/\(∀n e,d≠.array n e)
 flat:i.flat=true->i.agg=true/\∀(vs us:List Value) (w:World),vs.length=i.size->us.length=i.size ->
  pH vs us=true->pH vs i.zero.cells.toList=true->∀op x y,(op=.eql\/op=.neq) ->
  (do eqGuard op t x y (.agg vs.toArray) (.agg us.toArray);binOp op t (.agg vs.toArray) (.agg us.toArray):Sem Value).run P w =
   .ok (.bool (if op=.eql then rV vs us else !rV vs us)) w
 key:∀ks,i.kd=some ks->Ak P t (.ints ks)
structure iA:Type 1 where
 T:Type
 c:T->List SV
 z:T
structure Spec:Type 1 where
 α:Type
 args:α->List SV
 pre:α->Prop
 res:α->SV
 fr:Bool:=false
structure Ctx:Type 1 where
 tt:TypeId->Option TI
 el:TypeId->Option iA
 sp:FuncId->Option Spec
 inl:FuncId->Option Func
 cut:Nat->Bool:=λ_=>false
 lp:FuncId->Bool:=λ_=>false
 io:FuncId->Bool:=λ_=>false
 row:TypeId->Bool:=λ_=>false
 emp:TypeId->Bool:=λ_=>false
def bu.iZ (H:bu) (w:World):Prop:=∀b o,H b=some o->w.heap[b]?=some o
structure lD (P:Program) (f:FuncId) (fn:Func):Prop where
 get:P.funcs[f]?=some fn
 body:fn.body.isSome=true
 name : (fn.name == "runtime.NumGoroutine") = false
structure dt (P:Program) (f:FuncId) (S:Spec):Prop where
 fn:∃fn,lD P f fn
 lf:∀a,cN (S.args a)
 lr:∀a,LF (S.res a)
 run:∀a,S.pre a->∀(H F:bu) (w:World) (vals:List Value),H.iZ w->F.iZ w->dL H (S.args a) vals ->
  Calls P f vals.toArray w λe w'=>∃v H',e=.returned v/\H.le H'/\H'.iZ w'/\F.iZ w' /\
   (∀b,H' b≠none->H b≠none\/F b=none)/\pU H' (S.res a) v/\w'.os=w.os/\w'.tape=w.tape/\w'.output=w.output
 fresh:S.fr=true->∀a,S.pre a->∀(H F:bu) (w:World) (vals:List Value),H.iZ w->F.iZ w->dL H (S.args a) vals ->
  Calls P f vals.toArray w λe w'=>∃v N,e=.returned v/\H.iZ w'/\F.iZ w'/\bu.iZ N w'/\(∀b,N b≠none->H b=none/\F b=none)/\pU N (S.res a) v /\
   w'.os=w.os/\w'.tape=w.tape/\w'.output=w.output
structure ET (P:Program) (X:Ctx) (t:TypeId) (E:iA):Prop where
 ti:∃i,X.tt t=some i
 len:∀i,X.tt t=some i->∀x,(E.c x).length=i.size
 lf:∀x,cN (E.c x)/\(E.c x).all SV.one=true
 zero:∀i,X.tt t=some i->∀H,dL H (E.c E.z) i.zero.cells.toList
structure Ctx.Ok (P:Program) (X:Ctx):Prop where
 tt:∀t i,X.tt t=some i->my P t i
 el:∀t E,X.el t=some E->ET P X t E
 sp:∀f S,X.sp f=some S->dt P f S
 inl:∀f fn,X.inl f=some fn->lD P f fn
 mixed:P.follows .mixedOrders=true
def kL:Value->SV
 | .bool c=>.bc c
 | .int k n=>.ic k n
 | .string s=>.str λ_=>s
 | .slice none 0 0=>.cQ
 | v=>.v λ_=>v
def yQ:Value->SV
 | .agg cs=>.agg (cs.toList.map kL)
 | v=>kL v
def ev (s:St):Operand->SV
 | .tmp t=>(s.t[t]?).getD .any
 | .const v=>yQ v
 | .global g=>.v λ_=>.pointer (some ⟨g,0,none⟩)
 | .func f=>.fn (.func f) [] []
def SV.cells?:SV->Option (List SV)
 | .agg cs=>if cs.all SV.one then some cs else none
 | x=>if x.one then some [x] else none
def SV.FI:SV->Option (Unit->Bool)
 | .bc c=>some λ_=>c
 | .b x=>some x
 | _=>none
def SV.kq:SV->Option (IntKind × (Unit->Int))
 | .ic k n=>some (k,λ_=>n)
 | .i k n=>some (k,n)
 | _=>none
def iW (b:List Slot):Nat->SV->SV
 | 0,x=>x
 | n+1,.own l=>match b[l]? with
  | some (.dyn e sz c xs)=>.sl sz c xs
  | _=>.own l
 | n+1,.eU l sz m k=>match b[l]? with
  | some (.dyn e jZ c xs)=>(match Nat.beq sz jZ with
   | true=>.sl jZ c λ_=>((xs ()).take (k ())).drop (m ())
   | false=>.eU l sz m k)
  | _=>.eU l sz m k
 | n+1,.ptr l off=>match b[l]? with
  | some (.fix e cs)=>.dV (cs.map (iW b n)) off
  | _=>.ptr l off
 | n+1,.gn l=>match b[l]? with
  | some (.map k c m)=>.mp k c m
  | _=>.gn l
 | n+1,.fn f xs ys=>.fn f (xs.map (iW b n)) (ys.map (iW b n))
 | n+1,.agg cs=>.agg (cs.map (iW b n))
 | n+1,.cM cs=>.cM (cs.map (iW b n))
 | n+1,x=>x
def view (b:List Slot):SV->SV:=iW b 4
mutual
def SV.scalar:SV->Bool
 | .bc _|.b _|.ic ..|.i ..|.str _=>true
 | .cM cs=>zW cs
 | .agg cs=>zW cs
 | _=>false
def zW:List SV->Bool
 | []=>true
 | x :: r=>x.scalar&&zW r
end
inductive eC:Type 1 where
 | fail
 | pure (x:SV) (u:List (Nat × Slot))
 | lY (p:Unit->Prop) (x:SV) (u:List (Nat × Slot))
 | ex (T:Type) (p:T->Prop) (x:T->SV) (u:T->List (Nat × Slot))
def eC.K:eC->(SV->List (Nat × Slot)->Prop)->Prop
 | .fail,_=>False
 | .pure x u,k=>k x u
 | .lY p x u,k=>yD p/\k x u
 | .ex T p x u,k=>∃t,yD (λ_=>p t)/\k (x t) (u t)
def lC (b:List Slot):List (Nat × Slot)->List Slot
 | []=>b
 | (l,x) :: r=>lC (b.set l x) r
def St.jA (s:St) (dst:Option Tmp) (x:SV) (u:List (Nat × Slot)):St :=
 { t:=match dst with|some d=>s.t.set d x|none=>s.t,b:=lC s.b u }
def dv (x y:Int):Bool:=decide (x < y)
def fU (x y:Int):Bool:=decide (x<=y)
def fk (x y:Int):Bool:=x == y
def gg (op:BinOp) (k:IntKind) (x y:Int):Int :=
 k.wrap (match op with
  | .and=>(BitVec.ofInt k.bits x &&& BitVec.ofInt k.bits y).toNat
  | .or=>(BitVec.ofInt k.bits x ||| BitVec.ofInt k.bits y).toNat
  | .xor=>(BitVec.ofInt k.bits x ^^^ BitVec.ofInt k.bits y).toNat
  | _=>(BitVec.ofInt k.bits x &&& ~~~ BitVec.ofInt k.bits y).toNat:Nat)
def MF:SV->SV->Option (Unit->Bool)
 | .bc a,.bc b=>some λ_=>a == b
 | .bc a,.b y=>some λ_=>a == y ()
 | .b x,.bc b=>some λ_=>x () == b
 | .b x,.b y=>some λ_=>x () == y ()
 | .ic k a,.ic k' b=>if k=k' then some λ_=>a == b else none
 | .ic k a,.i k' y=>if k=k' then some λ_=>a == y () else none
 | .i k x,.ic k' b=>if k=k' then some λ_=>x () == b else none
 | .i k x,.i k' y=>if k=k' then some λ_=>x () == y () else none
 | .str x,.str y=>some λ_=>x () == y ()
 | _,_=>none
def Al:List SV->List SV->Option (Unit->Bool)
 | [],[]=>some λ_=>true
 | x :: xs,y :: ys=>match MF x y,Al xs ys with
  | some f,some g=>some λ_=>f ()&&g ()
  | _,_=>none
 | _,_=>none
def EI (op:BinOp) (k:IntKind) (a b:Int):eC :=
 match op with
 | .add=>.pure (.ic k (k.wrap (a+b))) []
 | .sub=>.pure (.ic k (k.wrap (a - b))) []
 | .mul=>.pure (.ic k (k.wrap (a*b))) []
 | .eql=>.pure (.bc (fk a b)) []
 | .neq=>.pure (.bc (!fk a b)) []
 | .lss=>.pure (.bc (dv a b)) []
 | .leq=>.pure (.bc (fU a b)) []
 | .gtr=>.pure (.bc (dv b a)) []
 | .geq=>.pure (.bc (fU b a)) []
 | _=>.fail
def Ab (op:BinOp) (k:IntKind) (x y:Unit->Int):eC :=
 match op with
 | .add=>.pure (.i k λ_=>k.wrap (x ()+y ())) []
 | .sub=>.pure (.i k λ_=>k.wrap (x () - y ())) []
 | .mul=>.pure (.i k λ_=>k.wrap (x ()*y ())) []
 | .quo=>.lY (λ_=>y ()≠0) (.i k λ_=>k.wrap ((x ()).tdiv (y ()))) []
 | .rem=>.lY (λ_=>y ()≠0) (.i k λ_=>(x ()).tmod (y ())) []
 | .and=>.pure (.i k λ_=>gg .and k (x ()) (y ())) []
 | .or=>.pure (.i k λ_=>gg .or k (x ()) (y ())) []
 | .xor=>.pure (.i k λ_=>gg .xor k (x ()) (y ())) []
 | .andNot=>.pure (.i k λ_=>gg .andNot k (x ()) (y ())) []
 | .eql=>.pure (.b λ_=>fk (x ()) (y ())) []
 | .neq=>.pure (.b λ_=>!fk (x ()) (y ())) []
 | .lss=>.pure (.b λ_=>dv (x ()) (y ())) []
 | .leq=>.pure (.b λ_=>fU (x ()) (y ())) []
 | .gtr=>.pure (.b λ_=>dv (y ()) (x ())) []
 | .geq=>.pure (.b λ_=>fU (y ()) (x ())) []
 | _=>.fail
def wP (x y:ByteArray):Bool:=Op.bytesLess x.toList y.toList
def wX (x y:ByteArray):Bool:=x.toList == y.toList
def BZ:BinOp->Bool
 | .shl|.shr=>true
 | _=>false
def ajX:BinOp->Bool
 | .add|.sub|.mul|.eql|.neq|.lss|.leq|.gtr|.geq=>true
 | _=>false
def QU:SV->SV->Option (Unit->Prop)
 | .sl sz c xs,.cQ=>some λ_=>xs ()=[]
 | .cQ,.sl sz c xs=>some λ_=>xs ()=[]
 | .own _,.cQ=>some λ_=>True
 | .cQ,.own _=>some λ_=>True
 | _,_=>none
def QV:SV->SV->Option (Bool × (Unit->Prop))
 | .v a,.v b=>some (true,λ_=>a ()=.map none/\b ()=.map none)
 | .mp k c m,.v b=>some (false,λ_=>b ()=.map none/\∃n,m () n≠none)
 | .v a,.mp k c m=>some (false,λ_=>a ()=.map none/\∃n,m () n≠none)
 | _,_=>none
def MG (
     X:Ctx) (op:BinOp) (t:TypeId) (x y:SV):eC :=
 match BZ op with
 | true=>match x.kq,y.kq with
  | some (k,m),some (_,n) =>
   .lY (λ_=>0<=n ()) (.i k λ_=>match op with
    | .shl=>k.wrap (m ()*2^(min (n ()).toNat k.bits))
    | _=>(m ()).fdiv (2^(min (n ()).toNat k.bits))) []
  | _,_=>.fail
 | false=>match ajX op,x,y with
  | true,.ic k a,.ic k' b=>if k=k' then EI op k a b else .fail
  | _,x,y=>match x.kq,y.kq with
   | some (k,m),some (k',n)=>if k=k' then Ab op k m n else .fail
   | _,_ =>
        match x,y with
    | .str m,.str n=>match op with
     | .add=>.lY (λ_=>(m ()).size+(n ()).size < 9223372036854775808) (.str λ_=>m ()++n ()) []
     | .eql=>.pure (.b λ_=>wX (m ()) (n ())) []
     | .neq=>.pure (.b λ_=>!wX (m ()) (n ())) []
     | .lss=>.pure (.b λ_=>wP (m ()) (n ())) []
     | .leq=>.pure (.b λ_=>wP (m ()) (n ())||wX (m ()) (n ())) []
     | .gtr=>.pure (.b λ_=>!(wP (m ()) (n ())||wX (m ()) (n ()))) []
     | .geq=>.pure (.b λ_=>!wP (m ()) (n ())) []
     | _=>.fail
    | .agg cs,.agg ds=>match X.tt t with
     | some i=>if i.flat&&cs.length == i.size&&ds.length == i.size then match Al cs ds,Al cs (i.zero.cells.toList.map kL) with
       | some f,some _=>match op with
        | .eql=>.pure (.b f) []
        | .neq=>.pure (.b λ_=>!f ()) []
        | _=>.fail
       | _,_=>.fail
      else .fail
     | none=>.fail
    | x,y=>match X.tt t with
     | some i=>match i.d with
      | .bool=>match MF x y,x.FI,y.FI with
       | some f,some _,some _=>match op with
        | .eql=>.pure (.b f) []
        | .neq=>.pure (.b λ_=>!f ()) []
        | _=>.fail
       | _,_,_=>.fail
      | .map _ _=>match QV x y with
       | some (d,p)=>match op with
        | .eql=>.lY p (.bc d) []
        | .neq=>.lY p (.bc (!d)) []
        | _=>.fail
       | none=>.fail
      | .sl _=>match QU x y with
       | some p=>match op with
        | .eql=>.pure (.nb true p) []
        | .neq=>.pure (.nb false p) []
        | _=>.fail
       | none=>match x,y,op with
        | .cQ,.cQ,.eql=>.pure (.bc true) []
        | .cQ,.cQ,.neq=>.pure (.bc false) []
        | _,_,_=>.fail
      | _=>.fail
     | none=>.fail
def Nq (op:UnOp) (x:SV):eC :=
 match op,x with
 | .not,.bc c=>.pure (.bc (!c)) []
 | .not,.b x=>.pure (.b λ_=>!x ()) []
 | .not,.nb d p=>.pure (.nb (!d) p) []
 | .neg,.ic k n=>.pure (.ic k (k.wrap (0 - n))) []
 | .neg,.i k n=>.pure (.i k λ_=>k.wrap (0 - n ())) []
 | .xor,.i k n=>match k.signed with
  | true=>.pure (.i k λ_=>gg .xor k (-1) (n ())) []
  | false=>.fail
 | _,_=>.fail
def Md (c a b:SV):eC :=
 match c with
 | .bc true=>.pure a []
 | .bc false=>.pure b []
 | .b x=>match a.FI,b.FI with
  | some f,some g=>.pure (.b λ_=>if x () then f () else g ()) []
  | _,_=>.fail
 | _=>.fail
def Me (X:Ctx) (src dst:TypeId) (x:SV):eC :=
 match X.tt src,X.tt dst with
 | some i,some j=>match j.d,x with
  | .int k,.ic _ n=>.pure (.ic k (k.wrap n)) []
  | .int k,.i _ n=>.pure (.i k λ_=>k.wrap (n ())) []
  | .str,.str x=>.pure (.str x) []
  | _,_=>.fail
 | _,_=>.fail
def tg (i:TI) (cs:List SV) (off:Nat):Option SV :=
 if off+i.size<=cs.length then
  if i.agg then some (.agg ((cs.drop off).take i.size)) else cs[off]?
 else none
def Cn (X:Ctx) (b:List Slot) (t:TypeId) (x:SV):eC :=
 match X.tt t with
 | none=>.fail
 | some i=>match x with
  | .ptr l off=>match b[l]? with
   | some (.fix e cs)=>match tg i cs off with
    | some v=>.pure v []
    | none=>.fail
   | _=>.fail
  | .dV cs off=>match tg i cs off with
   | some v=>.pure v []
   | none=>.fail
  | .gh l sz j off=>match b[l]? with
   | some (@Slot.dyn T e jZ c xs)=>if sz=jZ then
     .ex T (λx=>(xs ())[j ()]?=some x/\(tg i (c x) off).isSome=true) (λx=>(tg i (c x) off).getD .any) (λ_=>[])
    else .fail
   | some (@Slot.fj T e c xs p ys)=>match ys with
    | [y]=>if sz=1/\off=0/\i.size=1/\i.agg=false then .lY (λ_=>j ()=p ()) y [] else .fail
    | _=>.fail
   | _=>.fail
  | _=>.fail
def putCells:List SV->Nat->List SV->List SV
 | cs,_,[]=>cs
 | cs,o,x :: xs=>putCells (cs.set o x) (o+1) xs
def aaV:SV->Option Nat
 | .own l=>some l
 | _=>none
def Ac (
      X:Ctx) (b:List Slot) (t:TypeId) (x y:SV):eC :=
 match X.tt t,y.cells? with
 | some i,some ys=>if ys.length=i.size then match x with
  | .ptr l off=>match b[l]? with
   | some (.fix e cs)=>if off+i.size<=cs.length then .pure .any [(l,.fix e (putCells cs off ys))] else .fail
   | _=>.fail
  | .gh l sz j off=>match b[l]? with
   | some (@Slot.dyn T e jZ c xs)=>match aaV y with
    | some l'=>if sz=1/\jZ=1/\off=0 then .lY (λ_=>j () < (xs ()).length) .any [(l,.fj e c xs j [.own l'])] else .fail
    | none=>if sz=jZ/\off+i.size<=sz then
     .ex (T × T) (λp=>(xs ())[j ()]?=some p.1/\(c p.2).length=sz/\dA (putCells (c p.1) off ys) (c p.2)) (λ_=>.any)
      (λp=>[(l,.dyn e jZ c λ_=>(xs ()).set (j ()) p.2)])
    else .fail
   | _=>.fail
  | _=>.fail
  else .fail
 | _,_=>.fail
def GM (X:Ctx) (t:TypeId) (x:SV) (j:Nat):eC :=
 match X.tt t with
 | some i=>match i.d with
  | .st fs=>match fs[j]? with
   | some (_,o,_)=>match x with
    | .ptr l off=>.pure (.ptr l (off+o)) []
    | .dV cs off=>.pure (.dV cs (off+o)) []
    | .gh l sz k off=>.pure (.gh l sz k (off+o)) []
    | _=>.fail
   | none=>.fail
  | _=>.fail
 | none=>.fail
def zz (X:Ctx) (b:List Slot) (t:TypeId) (x ix:SV):eC :=
 match X.tt t with
 | none=>.fail
 | some i =>
       match i.d with
  | .arr n e=>match X.tt e,ix with
   | some j,.ic k m=>if 0<=m/\m.toNat < n then match x with
    | .ptr l off=>.pure (.ptr l (off+m.toNat*j.size)) []
    | .dV cs off=>.pure (.dV cs (off+m.toNat*j.size)) []
    | .gh l sz p off=>.pure (.gh l sz p (off+m.toNat*j.size)) []
    | _=>.fail
    else .fail
   | some j,.i k m=>(match x with
    | .ptr l off=>.ex Nat (λg=>m ()=(g:Int)/\g < n) (λg=>.ptr l (off+g*j.size)) (λ_=>[])
    | .dV cs off=>.ex Nat (λg=>m ()=(g:Int)/\g < n) (λg=>.dV cs (off+g*j.size)) (λ_=>[])
    | .gh l sz p off=>.ex Nat (λg=>m ()=(g:Int)/\g < n) (λg=>.gh l sz p (off+g*j.size)) (λ_=>[])
    | _=>.fail)
   | _,_=>.fail
  | .sl e=>match X.tt e,ix.kq with
   | some j,some (k,m)=>match x with
    | @SV.sl T sz c xs=>if sz=j.size then
      .ex T (λy=>0<=m ()/\(xs ())[(m ()).toNat]?=some y) (λy=>.dV (c y) 0) (λ_=>[])
     else .fail
    | .own l=>match b[l]? with
     | some (.dyn e' sz c xs)=>if sz=j.size then
       .lY (λ_=>0<=m ()/\(m ()).toNat < (xs ()).length) (.gh l sz (λ_=>(m ()).toNat) 0) []
      else .fail
     | some (.fj e' c xs p ys)=>if j.size=1 then
       .lY (λ_=>0<=m ()/\(m ()).toNat < (xs ()).length) (.gh l 1 (λ_=>(m ()).toNat) 0) []
      else .fail
     | _=>.fail
    | .eU l sz g h=>match b[l]? with
     | some (.dyn e' jZ c xs)=>if sz=j.size then
       .lY (λ_=>0<=m ()/\(m ()).toNat < h () - g ()) (.gh l sz (λ_=>g ()+(m ()).toNat) 0) []
      else .fail
     | _=>.fail
    | .ew cs n=>match ix with
     | .ic _ m=>if 0<=m/\m.toNat < n/\cs.length=n*j.size then .pure (.dV ((cs.drop (m.toNat*j.size)).take j.size) 0) [] else .fail
     | .i _ m=>match X.el e with
      | some E=>.ex (E.T × List E.T) (λy=>dA cs (y.2.flatMap E.c)/\y.2.length=n/\0<=m ()/\y.2[(m ()).toNat]?=some y.1) (λy=>.dV (E.c y.1) 0) (λ_=>[])
      | none=>.fail
     | _=>.fail
    | _=>.fail
   | _,_=>.fail
  | _=>.fail
def Lv (X:Ctx) (t:TypeId) (x ix:SV):eC :=
 match X.tt t with
 | none=>.fail
 | some i=>match i.d,x with
  | .str,.str s=>match ix.kq with
   | some (k,m)=>.lY (λ_=>0<=m ()/\(m ()).toNat < (s ()).size) (.i .u8 λ_=>((s ()).data.toList.getD (m ()).toNat 0).toNat) []
   | none=>.fail
  | .arr n e,.agg cs=>match X.tt e,ix with
   | some j,.ic k m=>if 0<=m/\m.toNat < n/\n*j.size=cs.length then match tg j cs (m.toNat*j.size) with
     | some v=>.pure v []
     | none=>.fail
    else .fail
   | some j,.i k m=>if n*j.size=cs.length then
     .ex Nat (λg=>m ()=(g:Int)/\g < n/\(tg j cs (g*j.size)).isSome=true) (λg=>(tg j cs (g*j.size)).getD .any) (λ_=>[])
    else .fail
   | _,_=>.fail
  | _,_=>.fail
def Cp (place:Nat->Option (Nat × Nat)):List (Nat × SV)->List SV->Option (List SV)
 | [],cs=>some cs
 | (j,x) :: r,cs=>match place j,x.cells? with
  | some (off,size),some ys=>if ys.length=size/\off+ys.length<=cs.length then Cp place r (putCells cs off ys) else none
  | _,_=>none
def Lw (X:Ctx) (t:TypeId) (parts:List (Nat × SV)):eC :=
 match X.tt t with
 | none=>.fail
 | some i=>match i.d with
  | .st fs=>match Cp (λj=>(fs[j]?).map (·.2)) parts (i.zero.cells.toList.map kL) with
   | some cs=>.pure (.agg cs) []
   | none=>.fail
  | .arr n e=>match X.tt e with
   | some k=>match Cp (λj=>some (j*k.size,k.size)) parts (i.zero.cells.toList.map kL) with
    | some cs=>.pure (.agg cs) []
    | none=>.fail
   | none=>.fail
  | _=>.fail
def uz {α:Type 1} (xs:List α):Nat->List α
 | 0=>[]
 | n+1=>xs++uz xs n
def GK (X:Ctx) (l:Nat) (t:TypeId) (n:Nat) (parts:List (Nat × SV)):eC :=
 match X.tt t with
 | none=>.fail
 | some i =>
       match i.d with
  | .sl e=>match X.tt e with
   | none=>.fail
   | some k=>match n with
    | 0=>match parts,X.el e with
     | [],some E=>match X.emp t with
      | false=>.pure (.own l) [(l,.dyn e k.size E.c λ_=>[])]
      | true=>.pure (.sl k.size E.c λ_=>[]) []
     | _,_=>.fail
    | n+1=>if (n+1)*k.size<=16777216 then
      match Cp (λj=>some (j*k.size,k.size)) parts (uz (k.zero.cells.toList.map kL) (n+1)) with
      | some cs=>match X.row t with
       | false=>.pure (.ew cs (n+1)) []
       | true=>match X.el e with
        | some E=>.ex (List E.T) (λys=>dA cs (ys.flatMap E.c)/\ys.length=n+1) (λ_=>.own l) (λys=>[(l,.dyn e k.size E.c λ_=>ys)])
        | none=>.fail
      | none=>.fail
     else .fail
  | _=>.fail
def GN (X:Ctx) (l:Nat) (t:TypeId) (len cap:SV):eC :=
 match X.tt t with
 | none=>.fail
 | some i=>match i.d with
  | .sl e=>match X.tt e,X.el e,len.kq,cap.kq with
   | some k,some E,some (_,n),some (_,m) =>
    .lY (λ_=>0<=n ()/\n ()<=m ()/\(k.bytes:Int)*m ()<=281474976710656/\m ()<=9223372036854775807) (.own l)
     [(l,.dyn e k.size E.c λ_=>List.replicate (n ()).toNat E.z)]
   | _,_,_,_=>.fail
  | _=>.fail
def top (b:List Slot):SV->SV
 | .own l=>match b[l]? with
  | some (.dyn e sz c xs)=>.sl sz c xs
  | _=>.own l
 | .eU l sz m k=>match b[l]? with
  | some (.dyn e jZ c xs)=>(match Nat.beq sz jZ with
   | true=>.sl jZ c λ_=>((xs ()).take (k ())).drop (m ())
   | false=>.eU l sz m k)
  | _=>.eU l sz m k
 | x=>x
def Am (X:Ctx) (b:List Slot) (t:TypeId) (s x:SV):eC :=
 match X.tt t with
 | none=>.fail
 | some i =>
       match i.d with
  | .sl e=>match X.tt e,s with
   | some k,.own l0=>match b[l0]? with
    | some (@Slot.dyn T e' sz c xs)=>if e'=e/\sz=k.size/\sz=1 then
      .ex (List T) (λys=>Le (top b x) (.sl sz c λ_=>ys)) (λys=>.i .i64 λ_=>((min (xs ()).length ys.length:Nat):Int))
       (λys=>[(l0,.dyn e sz c λ_=>ys.take (xs ()).length++(xs ()).drop ys.length)])
     else .fail
    | _=>.fail
   | _,_=>.fail
  | _=>.fail
def Ad (
      X:Ctx) (b:List Slot) (t:TypeId) (x:SV):eC :=
 match X.tt t with
 | none=>.fail
 | some i =>
       match i.d with
  | .sl e=>match X.tt e,x with
   | some k,.eU l0 sz g h=>match b[l0]? with
    | some (@Slot.dyn T e' jZ c xs)=>if e'=e/\jZ=k.size/\sz=1/\k.size=1/\k.agg=false then
      .ex T (λz=>dA (k.zero.cells.toList.map kL) (c z)) (λ_=>.cM [])
       (λz=>[(l0,.dyn e jZ c λ_=>(xs ()).take (g ())++List.replicate (h () - g ()) z++(xs ()).drop (g ()+(h () - g ())))])
     else .fail
    | _=>.fail
   | _,_=>.fail
  | _=>.fail
def FJ (g:Int->Int->Int) (x y:SV):eC :=
 match x.kq,y.kq with
 | some (k,m),some (k',n)=>if k=k' then .pure (.i k λ_=>g (m ()) (n ())) [] else .fail
 | _,_=>.fail
def E9 (g:Int->Int->Int) (x y z:SV):eC :=
 match x.kq,y.kq,z.kq with
 | some (k,m),some (k',n),some (k'',p)=>if k=k'/\k=k'' then .pure (.i k λ_=>g (g (m ()) (n ())) (p ())) [] else .fail
 | _,_,_=>.fail
def yf (X:Ctx) (b:List Slot) (l:Nat) (t:TypeId) (s x:SV):eC :=
 match X.tt t with
 | none=>.fail
 | some i =>
       match i.d with
  | .sl e=>match X.tt e with
   | none=>.fail
   | some k=>match s with
    | .own l0=>match b[l0]? with
     | some (@Slot.dyn T e' sz c xs)=>if e'=e/\sz=k.size then
       .ex (List T) (λys=>Le (top b x) (.sl sz c λ_=>ys)/\((xs ()).length+ys.length)*k.bytes<=140737488355328/\(xs ()).length+ys.length<=9223372036854775807)
        (λ_=>.own l) (λys=>[(l0,.dead),(l,.dyn e sz c λ_=>xs ()++ys)])
      else .fail
     | _=>.fail
    | .eU l0 C4 g n=>match b[l0]? with
     | some (@Slot.dyn T e' sz c xs)=>if e'=e/\sz=k.size/\C4=k.size then
       .ex (List T) (λys=>(g ()=0/\n ()<=(xs ()).length)/\Le (top b x) (.sl sz c λ_=>ys)/\(n ()+ys.length)*k.bytes<=140737488355328/\n ()+ys.length<=9223372036854775807)
        (λ_=>.own l) (λys=>[(l0,.dead),(l,.dyn e sz c λ_=>(xs ()).take (n ())++ys)])
      else .fail
     | _=>.fail
    | .cQ=>match X.el e with
     | some E=>.ex (List E.T) (λys=>Le (top b x) (.sl k.size E.c λ_=>ys)/\ys.length*k.bytes<=140737488355328/\ys.length<=9223372036854775807)
        (λ_=>.own l) (λys=>[(l,.dyn e k.size E.c λ_=>ys)])
     | none=>.fail
    | @SV.gq T sz c xs=>if sz=k.size then
      .ex (List T) (λys=>Le (top b x) (.sl sz c λ_=>ys)/\((xs ()).length+ys.length)*k.bytes<=140737488355328/\(xs ()).length+ys.length<=9223372036854775807/\ys≠[]/\∀z,(c z).all SV.one=true)
       (λ_=>.own l) (λys=>[(l,.dyn e sz c λ_=>xs ()++ys)])
     else .fail
    | .ew cs (n+1)=>match X.el e,x with
     | some E,.ew ds (m+1)=>.ex (List E.T × List E.T) (λy=>dA cs (y.1.flatMap E.c)/\y.1.length=n+1/\dA ds (y.2.flatMap E.c)/\y.2.length=m+1 /\
        (n+1+(m+1))*k.bytes<=140737488355328/\n+1+(m+1)<=9223372036854775807)
       (λ_=>.own l) (λy=>[(l,.dyn e k.size E.c λ_=>y.1++y.2)])
     | _,_=>.fail
    | _=>.fail
  | _=>.fail
def x8 (
       X:Ctx) (b:List Slot) (l:Nat) (t t':TypeId) (s x:SV):eC :=
 match s with
 | .cQ=>match X.tt t,X.tt t',x.kq with
  | some i,some i',some (k',n)=>match i.d,i'.d with
   | .sl e,.int _=>match X.tt e,X.el e with
    | some k,some E=>if k.size=1/\k'=.i64 then
      .ex (List E.T) (λys=>(ys.length:Int)=n ()/\(∀y∈ys,dA (k.zero.cells.toList.map kL) (E.c y))/\ys.length*k.bytes<=140737488355328/\ys.length<=9223372036854775807)
       (λ_=>.own l) (λys=>[(l,.dyn e k.size E.c λ_=>ys)])
     else .fail
    | _,_=>.fail
   | _,_=>.fail
  | _,_,_=>.fail
 | .own l0=>match b[l0]? with
  | some (
      @Slot.dyn T e' sz c xs)=>match X.tt t,X.tt t',x.kq with
   | some i,some i',some (k',n)=>match i.d,i'.d with
    | .sl e,.int _=>match X.tt e with
     | some k=>if e'=e/\sz=k.size/\k.size=1/\k'=.i64 then
       .ex (List T) (λys=>(ys.length:Int)=n ()/\(∀y∈ys,dA (k.zero.cells.toList.map kL) (c y))/\((xs ()).length+ys.length)*k.bytes<=140737488355328/\(xs ()).length+ys.length<=9223372036854775807)
        (λ_=>.own l) (λys=>[(l0,.dead),(l,.dyn e sz c λ_=>xs ()++ys)])
      else .fail
     | none=>.fail
    | _,_=>.fail
   | _,_,_=>.fail
  | _=>.fail
 | _=>.fail
def bound (len:Unit->Nat):Option SV->Option (Unit->Int)
 | none=>some λ_=>len ()
 | some x=>match x.kq with
  | some (_,n)=>some n
  | none=>none
def lower:Option SV->Option (Unit->Int)
 | none=>some λ_=>0
 | some x=>match x.kq with
  | some (_,n)=>some n
  | none=>none
def ab1:SV->Bool
 | .cQ|.own _|.ew ..|.sl ..=>true
 | _=>false
def clip:Option SV->Option SV->Option SV->Bool
 | none,some (.ic _ 0),some (.ic _ 0)=>true
 | _,_,_=>false
def Ae (
      X:Ctx) (b:List Slot) (l:Nat) (t:TypeId) (x:SV) (lo hi mx:Option SV):eC :=
 match X.tt t with
 | none=>.fail
 | some i =>
       match i.d with
  | .sl e=>match X.tt e with
   | none=>.fail
   | some k =>
         if clip lo hi mx&&ab1 x then
     match X.el e with
     | some E=>.pure (.own l) [(l,.dyn e k.size E.c λ_=>[])]
     | none=>.fail
    else match x,mx with
     | @SV.sl T sz c xs,some z=>if sz=k.size then
       match lo,hi.bind SV.kq,z.kq with
       | none,some (_,n),some (_,m)=>.lY (λ_=>n ()=(xs ()).length/\m ()=(xs ()).length) (.gq sz c xs) []
       | _,_,_=>.fail
      else .fail
     | @SV.sl T sz c xs,none=>if sz=k.size then
       match lower lo,bound (λ_=>(xs ()).length) hi with
       | some m,some n=>.lY (λ_=>0<=m ()/\m ()<=n ()/\n ()<=(xs ()).length) (.sl sz c λ_=>((xs ()).take (n ()).toNat).drop (m ()).toNat) []
       | _,_=>.fail
      else .fail
     | .own l0,none=>match b[l0]? with
      | some (.dyn e' sz c xs)=>if sz=k.size then
        match lower lo,bound (λ_=>(xs ()).length) hi with
        | some m,some n=>.lY (λ_=>0<=m ()/\m ()<=n ()/\n ()<=(xs ()).length) (.eU l0 k.size (λ_=>(m ()).toNat) (λ_=>(n ()).toNat)) []
        | _,_=>.fail
       else .fail
      | _=>.fail
     | .eU l0 sz g h,none=>match b[l0]? with
      | some (.dyn e' jZ c xs)=>if sz=k.size then
        match lower lo,bound (λ_=>h () - g ()) hi with
        | some m,some n=>.lY (λ_=>0<=m ()/\m ()<=n ()/\(n ()).toNat<=h () - g ()) (.eU l0 k.size (λ_=>g ()+(m ()).toNat) (λ_=>g ()+(n ()).toNat)) []
        | _,_=>.fail
       else .fail
      | _=>.fail
     | .cQ,none=>match lo,hi with
      | none,some (.ic _ 0)=>.pure .cQ []
      | _,_=>.fail
     | .ew cs n,none=>match X.el e with
      | some E=>match lower lo,bound (λ_=>n) hi with
       | some m,some h=>.ex (List E.T) (λl=>l.length=n/\dA cs (l.flatMap E.c)/\0<=m ()/\m ()<=h ()/\h ()<=n)
         (λl=>.sl k.size E.c λ_=>(l.take (h ()).toNat).drop (m ()).toNat) (λ_=>[])
       | _,_=>.fail
      | none=>.fail
     | _,_=>.fail
  | .str=>match x,mx with
   | .str s,none=>match lower lo,bound (λ_=>(s ()).size) hi with
    | some m,some n=>.lY (λ_=>0<=m ()/\m ()<=n ()/\n ()<=(s ()).size) (.str λ_=>(s ()).extract (m ()).toNat (n ()).toNat) []
    | _,_=>.fail
   | _,_=>.fail
  | .arr n e=>match X.tt e,X.el e with
   | some k,some E=>match x,mx with
    | .dV cs off,none=>match lower lo,bound (λ_=>n) hi with
     | some m,some h=>.ex (List E.T) (λl=>l.length=n/\dA ((cs.drop off).take (n*k.size)) (l.flatMap E.c)/\0<=m ()/\m ()<=h ()/\h ()<=n)
       (λl=>.sl k.size E.c λ_=>(l.take (h ()).toNat).drop (m ()).toNat) (λ_=>[])
     | _,_=>.fail
    | _,_=>.fail
   | _,_=>.fail
  | _=>.fail
def CF (X:Ctx) (b:List Slot) (t:TypeId) (x:SV):eC :=
 match X.tt t with
 | none=>.fail
 | some i=>match i.d,x with
  | .str,.str s=>.pure (.i .i64 λ_=>(s ()).size) []
  | .arr n _,_=>.pure (.ic .i64 n) []
  | .sl _,.cQ=>.pure (.ic .i64 0) []
  | .sl _,.ew _ n=>.pure (.ic .i64 n) []
  | .sl _,.sl sz c xs=>.pure (.i .i64 λ_=>(xs ()).length) []
  | .sl _,.gq sz c xs=>.pure (.i .i64 λ_=>(xs ()).length) []
  | .sl _,.own l=>match b[l]? with
   | some (.dyn e sz c xs)=>.pure (.i .i64 λ_=>(xs ()).length) []
   | _=>.fail
  | .sl _,.eU l sz m k=>match b[l]? with
   | some (.dyn e jZ c xs)=>.pure (.i .i64 λ_=>((k () - m ():Nat):Int)) []
   | _=>.fail
  | .map _ _,.mp k c m=>.ex (List k.T) (λks=>ks.Nodup/\∀n,n∈ks↔(m () n).isSome=true) (λks=>.i .i64 λ_=>ks.length) (λ_=>[])
  | .map _ _,.gn l=>match b[l]? with
   | some (.map k c m)=>.ex (List k.T) (λks=>ks.Nodup/\∀n,n∈ks↔(m () n).isSome=true) (λks=>.i .i64 λ_=>ks.length) (λ_=>[])
   | _=>.fail
  | _,_=>.fail
def MH (X:Ctx) (t:TypeId) (x:SV):eC :=
 match X.tt t with
 | none=>.fail
 | some i=>match i.d,x with
  | .sl _,.cQ=>.pure (.ic .i64 0) []
  | _,_=>.fail
def Lx (X:Ctx) (t:TypeId) (x:SV) (j:Nat):eC :=
 match X.tt t,x with
 | some i,.agg cs=>match i.d with
  | .st fs=>match fs[j]? with
   | some (ft,o,_)=>match X.tt ft with
    | some k=>match tg k cs o with
     | some v=>.pure v []
     | none=>.fail
    | none=>.fail
   | none=>.fail
  | _=>.fail
 | _,_=>.fail
def ZP (X:Ctx) (vt:TypeId) (vi:TI):Option (Σ T:Type,T->List SV):=match vi.d with
 | .bool=>some ⟨Unit,λ_=>[.bc true]⟩
 | _=>match X.el vt with
  | some E=>match vi.agg with
   | true=>some ⟨E.T,λt=>[.agg (E.c t)]⟩
   | false=>some ⟨E.T,E.c⟩
  | none=>none
def TI.key (i:TI):Option KD:=match i.d with
 | .int k=>some (.int k)
 | _=>match i.kd with
  | some ks=>some (.ints ks)
  | none=>none
def CG:List IntKind->List SV->Option (Unit->List Int)
 | [],[]=>some λ_=>[]
 | k :: ks,x :: xs=>match x.kq,CG ks xs with
  | some (k',n),some f=>if k'=k then some (λ_=>n () :: f ()) else none
  | _,_=>none
 | _,_=>none
def KD.key:(k:KD)->SV->Option (Unit->k.T)
 | .int k,x=>match x.kq with
  | some (k',n)=>if k'=k then some n else none
  | none=>none
 | .ints ks,.agg cs=>CG ks cs
 | .ints _,_=>none
def Ie:Nat->List IntKind->List Int->List SV
 | _,[],_=>[]
 | j,k :: ks,l=>.i k (λ_=>l.getD j 0) :: Ie (j+1) ks l
def KD.sv:(k:KD)->k.T->SV
 | .int k,n=>.i k (λ_=>n)
 | .ints ks,l=>.agg (Ie 0 ks l)
def Hk (X:Ctx) (l:Nat) (t:TypeId):eC :=
 match X.tt t with
 | none=>.fail
 | some i=>match i.d with
  | .map kt vt=>match X.tt kt,X.tt vt with
   | some ki,some vi=>match ki.key,ZP X vt vi with
    | some k,some E=>.pure (.gn l) [(l,.map k E.2 λ_ _=>none)]
    | _,_=>.fail
   | _,_=>.fail
  | _=>.fail
def Lk {T:Type} (z:Value) (c:T->List SV) (b:Unit->Bool):Option (Option T)->SV
 | none=>.b b
 | some (some t)=>(c t).headD .any
 | some none=>yQ z
def HG {T:Type} (b:Unit->Bool):Option (Option T)->SV
 | none=>.b b
 | some (some _)=>.bc true
 | some none=>.bc false
def aaW {T:Type} (z:Value) (c:T->List SV) (r:Option T):Option (Option T)->Prop
 | none=>z=.bool false/\∀t,c t=[.bc true]
 | some o=>r=o
def QW {T K:Type} (z:Value) (c:T->List SV) (m:Unit->K->Option T) (n:Unit->K) (ok:Bool):eC :=
 .ex (Option (Option T)) (λo=>aaW z c (m () (n ())) o)
  (λo=>match ok with
   | true=>.cM [Lk z c (λ_=>(m () (n ())).isSome) o,HG (λ_=>(m () (n ())).isSome) o]
   | false=>Lk z c (λ_=>(m () (n ())).isSome) o) (λ_=>[])
def B1 (X:Ctx) (b:List Slot) (t:TypeId) (x ix:SV) (ok:Bool):eC :=
 match X.tt t with
 | none=>.fail
 | some i =>
       match i.d with
  | .map kt vt=>match X.tt kt,X.tt vt with
   | some ki,some vi=>match ki.key with
    | some kk=>match x with
     | .mp k c m=>if k=kk then match k.key ix with
       | some n=>QW vi.zero c m n ok
       | none=>.fail
      else .fail
     | .gn l=>match b[l]? with
      | some (.map k c m)=>if k=kk then match k.key ix with
        | some n=>QW vi.zero c m n ok
        | none=>.fail
       else .fail
      | _=>.fail
     | .v x=>match kk.key ix with
      | some n=>.ex Unit (λ_=>x ()=.map none) (λ_=>match ok with|true=>.cM [yQ vi.zero,.bc false]|false=>yQ vi.zero) (λ_=>[])
      | none=>.fail
     | _=>.fail
    | none=>.fail
   | _,_=>.fail
  | _=>.fail
def xX (
        X:Ctx) (b:List Slot) (t:TypeId) (x ix y:SV):eC :=
 match X.tt t with
 | none=>.fail
 | some i =>
       match i.d with
  | .map kt vt=>match X.tt kt with
   | some ki=>match ki.key with
    | some kk=>match x with
     | .gn l=>match b[l]? with
      | some (@Slot.map T k c m)=>if k=kk then match k.key ix with
        | some n=>.ex T (λt=>dA [y] (c t)) (λ_=>.any) (λt=>[(l,.map k c λ_=>k.jA (m ()) (n ()) t)])
        | none=>.fail
       else .fail
      | _=>.fail
     | _=>.fail
    | none=>.fail
   | none=>.fail
  | _=>.fail
def Cb (b:List Slot) (x:SV):eC :=
 match x with
 | .ptr l 0=>match b[l]? with
  | some (.iter k c m seen (some (n,t)))=>.pure (.cM (k.sv n :: c t)) []
  | _=>.fail
 | _=>.fail
def HH (X:Ctx) (l:Nat) (t:TypeId) (x:SV):eC :=
 match X.tt t with
 | none=>.fail
 | some i=>match i.d,x with
  | .map _ _,.mp k c m=>.pure (.ptr l 0) [(l,.iter k c m (λ_=>[]) none)]
  | _,_=>.fail
def SV.gH:SV->Bool
 | .ptr ..|.gh ..|.own _|.eU ..|.gn _|.gy _=>true
 | .agg cs=>cs.any λ|.ptr ..|.gh ..|.own _|.eU ..|.gn _|.gy _=>true|.fn ..|.mC ..|.agg _|.cM _|.dV ..|.ew ..=>true|_=>false
 | .cM _|.fn ..|.mC ..|.dV ..|.ew ..=>true
 | _=>false
mutual
def SV.lb:SV->Bool
 | .ptr ..|.gh ..|.own _|.eU ..|.gn _|.gy _=>true
 | .fn _ xs ys=>rq xs||rq ys
 | .agg cs=>rq cs
 | .cM cs=>rq cs
 | .ew cs _=>rq cs
 | .dV cs _=>rq cs
 | _=>false
def rq:List SV->Bool
 | []=>false
 | x :: r=>x.lb||rq r
end
mutual
def kh:SV->SV
 | .ptr ..|.gh ..|.own _|.eU ..|.gn _|.gy _=>.cell
 | .agg cs=>.agg (wR cs)
 | .cM cs=>.cM (wR cs)
 | .fn f xs ys=>.fn f (wR xs) (wR ys)
 | x=>x
def wR:List SV->List SV
 | []=>[]
 | x :: r=>kh x :: wR r
end
def EU (X:Ctx) (b:List Slot) (f:FuncId) (args:List SV):eC :=
 match X.sp f with
 | none=>.fail
 | some S=>if args.any SV.gH then
   .ex S.α (λa=>(dA (args.map (view b)) (S.args a)/\((S.res a).scalar||(S.fr||!rq args))=true\/dA (wR args) (S.args a))/\S.pre a) S.res (λ_=>[])
  else .ex S.α (λa=>dA args (S.args a)/\S.pre a) S.res (λ_=>[])
def zP (X:Ctx) (b:List Slot) (l:Nat) (bi:Builtin) (ts:List TypeId) (xs:List SV):eC :=
 match bi with
 | .len=>match ts,xs with
  | [t],[x]=>CF X b t x
  | _,_=>.fail
 | .append=>match ts,xs with
  | [t,t'],[x,y]=>if t=t' then yf X b l t x y else x8 X b l t t' x y
  | _,_=>.fail
 | .copy=>match ts,xs with
  | [t,t'],[x,y]=>if t=t' then Am X b t x y else .fail
  | _,_=>.fail
 | .clear=>match ts,xs with
  | [t],[x]=>Ad X b t x
  | _,_=>.fail
 | .min=>match xs with
  | [x,y]=>FJ min x y
  | [x,y,z]=>E9 min x y z
  | _=>.fail
 | .max=>match xs with
  | [x,y]=>FJ max x y
  | [x,y,z]=>E9 max x y z
  | _=>.fail
 | .cap=>match ts,xs with
  | [t],[x]=>MH X t x
  | _,_=>.fail
 | _=>.fail
def et (X:Ctx) (s:St) (l:Nat):Op->eC
 | .move x|.assign x=>.pure (ev s x) []
 | .pick c a b=>Md (ev s c) (ev s a) (ev s b)
 | .alloc e=>match X.tt e with
  | some i=>.pure (.ptr l 0) [(l,.fix e (i.zero.cells.toList.map kL))]
  | none=>.fail
 | .box e x=>match X.tt e,(ev s x).cells? with
  | some i,some cs=>.pure (.ptr l 0) [(l,.fix e cs)]
  | _,_=>.fail
 | .build t parts=>Lw X t (parts.toList.map λp=>(p.1,ev s p.2))
 | .buildSlice t n parts=>GK X l t n (parts.toList.map λp=>(p.1,ev s p.2))
 | .load t x=>Cn X s.b t (ev s x)
 | .store t x y=>Ac X s.b t (ev s x) (ev s y)
 | .nilCheck x=>match ev s x with
  | .ptr l off=>.pure (.ptr l off) []
  | .dV cs off=>.pure (.dV cs off) []
  | .fn (.func f) fs cs=>.pure (.fn (.func f) fs cs) []
  | _=>.fail
 | .binOp op t x y _=>MG X op t (ev s x) (ev s y)
 | .unOp op _ x=>Nq op (ev s x)
 | .convert src dst x=>Me X src dst (ev s x)
 | .makeFunc fn first cap=>.pure (.fn fn (first.toList.map (ev s)) (cap.toList.map (ev s))) []
 | .makeSlice t n m=>GN X l t (ev s n) (ev s m)
 | .slice t x lo hi mx=>Ae X s.b l t (ev s x) (lo.map (ev s)) (hi.map (ev s)) (mx.map (ev s))
 | .fieldAddr t x j=>GM X t (ev s x) j
 | .field t x j=>Lx X t (ev s x) j
 | .indexAddr t x i=>zz X s.b t (ev s x) (ev s i)
 | .index t x i=>Lv X t (ev s x) (ev s i)
 | .extract x j=>match ev s x with
  | .cM cs=>match cs[j]? with
   | some v=>.pure v []
   | none=>.fail
  | _=>.fail
 | .makeMap t r=>match r with
  | none=>Hk X l t
  | some _=>.fail
 | .lookup t x i ok=>B1 X s.b t (ev s x) (ev s i) ok
 | .mapUpdate t x i y=>xX X s.b t (ev s x) (ev s i) (ev s y)
 | .insert t x i y=>xX X s.b t (ev s x) (ev s i) (ev s y)
 | .range t x=>HH X l t (ev s x)
 | .entry x=>Cb s.b (ev s x)
 | .call c=>match c.callee with
  | .value g=>match ev s g with
   | .fn (.func f) first cap=>EU X s.b f (first++c.args.toList.map (ev s)++cap)
   | _=>.fail
  | .builtin bi=>zP X s.b l bi c.argTypes.toList (c.args.toList.map (ev s))
  | _=>.fail
 | _=>.fail
def rT:Op->Bool
 | .store ..|.mapUpdate ..|.insert ..=>true
 | _=>false
def fZ:Op->Bool
 | .alloc _|.box ..|.buildSlice ..|.makeSlice ..|.makeMap ..|.range ..=>true
 | .slice _ _ _ _ (some _)=>true
 | .call { callee:=.builtin .append,.. }=>true
 | _=>false
def fm (P:Program) (f:Fr) (s:St) (o:Oper) (a:Act) (w:World) (R:SV->List (Nat × Slot)->Prop):Prop :=
 ∃x u,R x u/\∀(K:Act->World->Prop) (Q:Exit->Act->World->Prop),
  (∀η' H' w' v,Den f (s.jA o.dst x u) η' H' (a.put o.dst v) w'->K (a.put o.dst v) w')->o.wp P a w K Q
section
variable {P:Program} {X:Ctx} {f:Fr} {s:St} {η:Nat->Value} {H:bu} {a:Act} {w:World} {o:Oper} {R:SV->List (Nat × Slot)->Prop}
theorem x9 (D:Den f s η H a w) {x:SV} {v:Value} {w':World} (hr:(execOp a.eval o).run P w=.ok (.value v) w') (g:w.grownBy w' none)
  (hx:rel η (aS s.b) H x v) (h:R x []):fm P f s o a w R :=
 ⟨x,[],h,λK Q hk=>by
  unfold Oper.wp
  rw [hr]
  exact hk η H w' v ((D.grown g).put o.dst hx)⟩
theorem eh (D:Den f s η H a w) {x:SV} {v:Value} (hr:∀w,(execOp a.eval o).run P w=.ok (.value v) w)
 (hx:rel η (aS s.b) H x v) (h:R x []):fm P f s o a w R:=x9 D (hr w) (qh w none) hx h
theorem Den.B2 (D:Den f s η H a w) (t:Nat):rel η (aS s.b) H ((s.t[t]?).getD .any) (a.tmps.getD t undef):=by
 cases h:s.t[t]? with
 | none=>simp [rel]
 | some x =>
  obtain ⟨u,h1,h2⟩:=ud D.t t x h
  have h3:a.tmps[t]?=some u:=by simpa using h1
  rw [Hj,h3]
  exact h2
theorem P4 (η:Nat->Value) (q:Nat->Live) (H:bu) (v:Value):rel η q H (kL v) v:=by
 unfold kL
 split<;>simp [rel]
theorem zD (η:Nat->Value) (q:Nat->Live) (H:bu):∀(vs:List Value),aP η q H (vs.map kL) vs
 | []=>by simp [aP]
 | v :: r=>by simp only [iG,aP];exact ⟨v,r,rfl,P4 η q H v,zD η q H r⟩
theorem Ll (η:Nat->Value) (q:Nat->Live) (H:bu) (v:Value):rel η q H (yQ v) v:=by
 unfold yQ
 split
 ·rename_i cs
  simp only [rel]
  exact ⟨cs.toList,by simp,zD η q H _⟩
 ·exact P4 η q H v
theorem Den.ev (D:Den f s η H a w) (x:Operand):rel η (aS s.b) H (ev s x) (a.eval x):=by
 cases x with
 | tmp t=>exact D.B2 t
 | const v=>exact Ll η _ H v
 | global g=>simp [Vc.ev,Act.eval,rel]
 | func g=>simp only [Vc.ev,Act.eval,rel];exact ⟨[],[],by simp,by simp [aP],by simp [aP]⟩
theorem Den.C5 (D:Den f s η H a w):∀xs:List Operand,aP η (aS s.b) H (xs.map (Vc.ev s)) (xs.map a.eval)
 | []=>by simp [aP]
 | x :: r=>by simp only [iG,aP];exact ⟨_,_,rfl,D.ev x,D.C5 r⟩
theorem agA {v:Value} (h:v.oneCell'=true):v.cells=#[v]:=by
 cases v<;>first|rfl|simp [Value.oneCell'] at h
theorem Ez {q:Nat->Live}:∀{xs:List SV} {vs:List Value},xs.all SV.one=true->aP η q H xs vs->∀v∈vs,v.oneCell'=true
 | [],vs,_,h,v,hv=>by simp only [aP] at h;subst h;simp at hv
 | x :: r,vs,ho,h,v,hv=>by
  simp only [aP] at h
  obtain ⟨u,us,rfl,h1,h2⟩:=h
  simp only [BM,cG] at ho
  rcases cJ.1 hv with rfl|hv
  ·exact yj ho.1 h1
  ·exact Ez ho.2 h2 v hv
theorem P5 {q:Nat->Live} {x:SV} {v:Value} {ys:List SV} (hc:x.cells?=some ys) (h:rel η q H x v) :
  aP η q H ys v.cells.toList/\∀u∈v.cells.toList,u.oneCell'=true:=by
 unfold SV.cells? at hc
 split at hc
 ·rename_i cs
  split at hc
  ·rename_i ho
   simp at hc;subst hc
   simp only [rel] at h
   obtain ⟨vs,rfl,h2⟩:=h
   simp only [Value.cells]
   exact ⟨h2,Ez ho h2⟩
  ·cases hc
 ·split at hc
  ·rename_i ho
   simp at hc;subst hc
   have h1:=yj ho h
   rw [agA h1]
   refine ⟨by simp only [aP];exact ⟨v,[],rfl,h,rfl⟩,λu hu=>by simp at hu;subst hu;exact h1⟩
  ·cases hc
theorem Ly {q:Nat->Live} {x:SV} {v:Value} {y:Unit->Bool} (hc:x.FI=some y) (h:rel η q H x v):v=.bool (y ()):=by
 cases x<;>simp [SV.FI] at hc<;>subst hc<;>simpa [rel] using h
theorem mU {q:Nat->Live} {x:SV} {v:Value} {k:IntKind} {y:Unit->Int} (hc:x.kq=some (k,y)) (h:rel η q H x v):v=.int k (y ()):=by
 cases x<;>simp [SV.kq] at hc<;>obtain ⟨rfl,rfl⟩:=hc<;>simpa [rel] using h
theorem ZQ (D:Den f s η H a w) (x:Operand) (ho:o.op=.move x\/o.op=.assign x) (h:R (Vc.ev s x) []):fm P f s o a w R :=
 eh D (v:=a.eval x) (λw=>by rcases ho with ho|ho<;>simp [execOp,ho]) (D.ev x) h
theorem ald (D:Den f s η H a w) (c x y:Operand) (ho:o.op=.pick c x y) (h:(Md (Vc.ev s c) (Vc.ev s x) (Vc.ev s y)).K R):fm P f s o a w R:=by
 have hc:=D.ev c
 have hx:=D.ev x
 have hy:=D.ev y
 unfold Md at h
 split at h
 ·rename_i e;rw [e] at hc;simp only [rel] at hc
  exact eh D (v:=a.eval x) (λw=>by simp [execOp,ho,hc,asBool]) hx h
 ·rename_i e;rw [e] at hc;simp only [rel] at hc
  exact eh D (v:=a.eval y) (λw=>by simp [execOp,ho,hc,asBool]) hy h
 ·rename_i z e;rw [e] at hc;simp only [rel] at hc
  split at h
  ·rename_i f g hf hg
   have h1:=Ly hf hx
   have h2:=Ly hg hy
   refine eh D (v:=if z () then a.eval x else a.eval y) (λw=>by simp [execOp,ho,hc,asBool]) ?_ h
   simp only [rel]
   rw [h1,h2]
   split<;>rfl
  ·exact h.elim
 ·exact h.elim
theorem Wl {op:BinOp} {k:IntKind} {x y:Int} {v:Value} (h:∀w,(match op with
  | .add|.sub|.mul=>Op.intArith op k x y
  | .quo|.rem=>Op.intDiv op k x y
  | .and|.or|.xor|.andNot=>Op.intBits op k x y
  | _=>Op.intCmp op x y:Sem Value).run P w=.ok v w) (hs:BZ op=false) (t:TypeId) (X Y:Operand) (w:World) :
  (do eqGuard op t X Y (.int k x) (.int k y);binOp op t (.int k x) (.int k y):Sem Value).run P w=.ok v w:=by
 have:=h w
 cases op<;>simp [BZ] at hs<;>simp_all [eqGuard,binOp]
theorem aiH (D:Den f s η H a w) (op:BinOp) (t t':TypeId) (x y:Operand) (ho:o.op=.binOp op t x y t') {k:IntKind} {m n:Unit->Int}
  (hs:BZ op=false) (hx:(Vc.ev s x).kq=some (k,m)) (hy:(Vc.ev s y).kq=some (k,n)) (h:(Ab op k m n).K R):fm P f s o a w R:=by
 have h1:=mU hx (D.ev x)
 have h2:=mU hy (D.ev y)
 have main:∀v X,(∀w,(match op with
  | .add|.sub|.mul=>Op.intArith op k (m ()) (n ())
  | .quo|.rem=>Op.intDiv op k (m ()) (n ())
  | .and|.or|.xor|.andNot=>Op.intBits op k (m ()) (n ())
  | _=>Op.intCmp op (m ()) (n ()):Sem Value).run P w=.ok v w)->rel η (aS s.b) H X v->R X []->fm P f s o a w R:=by
  intro v X hv hX hR
  refine eh D (v:=v) (λw=>?_) hX hR
  have:=Wl hv hs t x y w
  simp only [execOp,ho,h1,h2,Sem.run_bind,this,Result.andThen_ok,Sem.run_pure]
 unfold Ab at h
 cases op<;>simp only [eC.K] at h<;>simp only [BZ] at hs
 case add=>exact main (.int k _) _ (λw=>rfl) (by simp only [rel]) h
 case sub=>exact main (.int k _) _ (λw=>rfl) (by simp only [rel]) h
 case mul=>exact main (.int k _) _ (λw=>rfl) (by simp only [rel]) h
 case quo=>obtain ⟨⟨h0⟩,h⟩:=h;exact main (.int k _) _ (λw=>by simp only [Op.intDiv,h0,if_false];rfl) (by simp only [rel]) h
 case rem=>obtain ⟨⟨h0⟩,h⟩:=h;exact main (.int k _) _ (λw=>by simp only [Op.intDiv,h0,if_false];rfl) (by simp only [rel]) h
 case and=>exact main (.int k _) _ (λw=>rfl) (by simp only [rel,gg]) h
 case or=>exact main (.int k _) _ (λw=>rfl) (by simp only [rel,gg]) h
 case xor=>exact main (.int k _) _ (λw=>rfl) (by simp only [rel,gg]) h
 case andNot=>exact main (.int k _) _ (λw=>rfl) (by simp only [rel,gg]) h
 case eql=>exact main (.bool _) _ (λw=>rfl) (by simp only [rel,fk]) h
 case neq=>exact main (.bool _) _ (λw=>rfl) (by simp only [rel,fk,bne]) h
 case lss=>exact main (.bool _) _ (λw=>rfl) (by simp only [rel,dv]) h
 case leq=>exact main (.bool _) _ (λw=>rfl) (by simp only [rel,fU]) h
 case gtr=>exact main (.bool _) _ (λw=>rfl) (by simp only [rel,dv]) h
 case geq=>exact main (.bool _) _ (λw=>rfl) (by simp only [rel,fU]) h
 all_goals first|exact h.elim|cases hs
theorem aiI {op:BinOp} {k:IntKind} {m n:Int} (h:(EI op k m n).K R) :
  ∃X,R X []/\BZ op=false/\∀(v:Value) (η:Nat->Value) (q:Nat->Live) (H:bu) (Y:SV),
   (Ab op k (λ_=>m) (λ_=>n))=.pure Y []->rel η q H Y v->rel η q H X v:=by
 cases op<;>simp only [EI,eC.K] at h
 case add|sub|mul|eql|neq|lss|leq|gtr|geq =>
  refine ⟨_,h,rfl,λv η q H Y hY hr=>?_⟩
  simp only [Ab,eC.pure.injEq,and_true] at hY
  subst hY
  simpa only [rel] using hr
 all_goals exact h.elim
theorem aoy (D:Den f s η H a w) (op:UnOp) (t:TypeId) (x:Operand) (ho:o.op=.unOp op t x) (h:(Nq op (Vc.ev s x)).K R):fm P f s o a w R:=by
 have hx:=D.ev x
 unfold Nq at h
 split at h<;>first|exact h.elim|skip
 all_goals
  rename_i e
  rw [e] at hx
  simp only [rel] at hx
 case h_3 =>
  rename_i d p _
  obtain ⟨c,hc,hp⟩:=hx
  refine eh D (v:=.bool (!c)) (λw=>by simp [execOp,ho,hc,Op.unary]) (by simp only [rel];exact ⟨!c,rfl,λe=>hp (by cases c<;>cases d<;>simp_all)⟩) h
 case h_6 =>
  split at h<;>first|exact h.elim|skip
  rename_i hs
  exact eh D (v:=.int _ _) (λw=>by simp only [execOp,ho,hx,Op.unary,hs,if_true];rfl) (by simp only [rel,gg]) h
 all_goals
  refine eh D (v:=_) (λw=>by simp [execOp,ho,hx,Op.unary,Op.intArith];rfl) (by simp [rel]) h
theorem ale (C:X.Ok P) (D:Den f s η H a w) (src dst:TypeId) (x:Operand) (ho:o.op=.convert src dst x) (h:(Me X src dst (Vc.ev s x)).K R):fm P f s o a w R:=by
 have hx:=D.ev x
 unfold Me at h
 split at h
 ·rename_i i j hi hj
  have Ii:=C.tt _ _ hi
  have Ij:=C.tt _ _ hj
  have Tk:∃d,P.underlying src=some d:=by
   have:=Ii.desc
   split at this
   all_goals first
    | exact ⟨_,this⟩
    | (obtain ⟨d,h,_⟩:=this;exact ⟨_,h⟩)
  obtain ⟨d,hd⟩:=Tk
  have sq:=Ij.desc
  split at h<;>first|exact h.elim|skip
  ·rename_i k k' n e1 e2
   rw [e1] at sq;rw [e2] at hx
   simp only [rel] at hx
   refine eh D (v:=.int k (k.wrap n)) (λw=>by simp [execOp,ho,hx,convert,run_underlying hd,run_underlying sq,Conv.intToInt]) (by simp [rel]) h
  ·rename_i k k' n e1 e2
   rw [e1] at sq;rw [e2] at hx
   simp only [rel] at hx
   refine eh D (v:=.int k (k.wrap (n ()))) (λw=>by simp [execOp,ho,hx,convert,run_underlying hd,run_underlying sq,Conv.intToInt]) (by simp [rel]) h
  ·rename_i y e1 e2
   rw [e1] at sq;rw [e2] at hx
   simp only [rel] at hx
   refine eh D (v:=.string (y ())) (λw=>by simp [execOp,ho,hx,convert,run_underlying hd,run_underlying sq]) (by simp [rel]) h
 ·exact h.elim
end
end Go.Vc
