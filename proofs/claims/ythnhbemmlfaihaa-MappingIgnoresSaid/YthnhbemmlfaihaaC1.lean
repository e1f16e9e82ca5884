import Derived.Test.YthnhbemmlfaihaaC0
set_option linter.unusedVariables false
set_option linter.unusedSimpArgs false
set_option maxRecDepth 10000
set_option maxHeartbeats 64000000
namespace Go.Vc
open Go
structure vV (p:Unit->Prop):Prop where
 out:p ()
structure wa (x:Unit->Bool):Prop where
 out:x ()=true
structure wb (x:Unit->Bool):Prop where
 out:x ()=false
structure Hyp (p:Unit->Prop):Prop where
 out:p ()
section
variable {η:Nat->Value} {H:aV}
theorem agw {x:Unit->Value} (ho:(SV.v x).one=true):(x ()).oneCell'=true:=by
 unfold SV.one at ho
 simp only at ho
 split at ho<;>first|(rename_i e;rw [e];rfl)|cases ho
theorem vG {q:Nat->Live} {x:SV} {v:Value} (ho:x.one=true) (h:rel η q H x v):v.oneCell'=true:=by
 cases x<;>first|(have hv:=agw ho;simp only [rel] at h;rw [h];exact hv)|skip
 all_goals (simp [SV.one] at ho)<;>simp only [rel] at h
 case bc=>subst h;rfl
 case b=>subst h;rfl
 case nb=>obtain ⟨c,rfl,_⟩:=h;rfl
 case ic=>subst h;rfl
 case i=>subst h;rfl
 case str=>subst h;rfl
 case cell=>exact h
 case cD=>subst h;rfl
 case ptr l off =>
  split at h
  ·exact h.elim
  ·obtain ⟨x,rfl⟩:=h;rfl
  ·obtain ⟨bl,_,rfl⟩:=h;rfl
 case fq l sz i off =>
  split at h
  ·exact h.elim
  ·obtain ⟨x,rfl⟩:=h;rfl
  ·obtain ⟨bl,n,c,_,rfl⟩:=h;rfl
 case own l =>
  split at h
  ·exact h.elim
  ·obtain ⟨x,n,c,rfl⟩:=h;rfl
  ·obtain ⟨_,x,n,c,rfl⟩:=h;rfl
 case eh l sz m n =>
  split at h
  ·exact h.elim
  ·obtain ⟨x,n,c,rfl⟩:=h;rfl
  ·obtain ⟨x,n,c,rfl⟩:=h.isSlice;rfl
 case dF=>obtain ⟨ad,rfl,_⟩:=h;rfl
 case sl=>obtain ⟨⟨ad,cap,rfl,_⟩,_⟩:=h;rfl
 case cZ=>obtain ⟨ad,rfl,_⟩:=h;rfl
 case fn=>obtain ⟨fs,cs,rfl,_⟩:=h;rfl
 case kV=>obtain ⟨y,rfl,_⟩:=h;rfl
 case fu=>obtain ⟨⟨ad,rfl,_⟩,_⟩:=h;rfl
 case mp=>rcases h.1 with ⟨rfl,_⟩|⟨_,_,_,rfl,_⟩<;>rfl
 case fm l =>
  split at h
  ·exact h.elim
  ·obtain ⟨x,rfl⟩:=h;rfl
  ·obtain ⟨_,x,rfl⟩:=h;rfl
 case fE l =>
  split at h
  ·exact h.elim
  ·obtain ⟨x,rfl⟩:=h;rfl
  ·obtain ⟨bl,_,rfl⟩:=h;rfl
end
mutual
inductive Le:SV->SV->Prop
 | refl (x:SV):Le x x
 | any (x:SV):Le x .any
 | cell {x:SV}:x.one=true->Le x .cell
 | b {x y:Unit->Bool}:x ()=y ()->Le (.b x) (.b y)
 | bc {c:Bool} {y:Unit->Bool}:c=y ()->Le (.bc c) (.b y)
 | EA {x:Unit->Bool} {c:Bool}:x ()=c->Le (.b x) (.bc c)
 | i {k:IntKind} {x y:Unit->Int}:x ()=y ()->Le (.i k x) (.i k y)
 | ic {k:IntKind} {n:Int} {y:Unit->Int}:n=y ()->Le (.ic k n) (.i k y)
 | ahO {k:IntKind} {x:Unit->Int} {n:Int}:x ()=n->Le (.i k x) (.ic k n)
 | str {x y:Unit->ByteArray}:x ()=y ()->Le (.str x) (.str y)
 | v {x y:Unit->Value}:x ()=y ()->Le (.v x) (.v y)
 | agg {cs ds:List SV}:cH cs ds->Le (.agg cs) (.agg ds)
 | opt {T:Type} {p:T->Prop} {y:SV} {x:T->SV} (t:T):p t->(∀t,LF (x t))->Le y (x t)->Le y (.opt p x)
 | bX {cs ds:List SV}:cH cs ds->Le (.bX cs) (.bX ds)
 | sl {T:Type} {sz:Nat} {c:T->List SV} {xs ys:Unit->List T}:xs ()=ys ()->Le (.sl sz c xs) (.sl sz c ys)
 | slm {T T':Type} {sz:Nat} {c:T->List SV} {c':T'->List SV} {xs:Unit->List T} {ys:Unit->List T'}:(xs ()).length=(ys ()).length->(∀x,bZ (c' x)) ->
  (∀(j:Nat) (x:T) (y:T'),(xs ())[j]?=some x->(ys ())[j]?=some y->cH (c x) (c' y))->Le (.sl sz c xs) (.sl sz c' ys)
 | cD {T:Type} {sz:Nat} {c:T->List SV} {ys:Unit->List T}:ys ()=[]->(∀x,bZ (c x))->Le .cD (.sl sz c ys)
 | dF {T:Type} {cs:List SV} {n sz:Nat} {c:T->List SV} {ys:Unit->List T}:(ys ()).length=n->(∀y∈ys (),(c y).length=sz)->(∀x,bZ (c x)) ->
  cH cs ((ys ()).flatMap c)->Le (.dF cs n) (.sl sz c ys)
 | cZ {cs ds:List SV} {off:Nat}:cH cs ds->Le (.cZ cs off) (.cZ ds off)
 | fq {l sz:Nat} {i j:Unit->Nat} {off:Nat}:i ()=j ()->Le (.fq l sz i off) (.fq l sz j off)
 | eh {l sz:Nat} {m n m' n':Unit->Nat}:m ()=m' ()->n ()=n' ()->Le (.eh l sz m n) (.eh l sz m' n')
 | mp {T:Type} {k:KD} {c:T->List SV} {m m':Unit->k.T->Option T}:m ()=m' ()->Le (.mp k c m) (.mp k c m')
 | fu {T:Type} {sz:Nat} {c:T->List SV} {xs ys:Unit->List T}:xs ()=ys ()->Le (.fu sz c xs) (.fu sz c ys)
 | nX {T:Type} {sz:Nat} {c:T->List SV} {xs ys:Unit->List T}:xs ()=ys ()->Le (.fu sz c xs) (.sl sz c ys)
 | ahP {T:Type} {k:KD} {c:T->List SV} {x:Unit->Value} {m:Unit->k.T->Option T}:x ()=.map none->(∀n,m () n=none)->(∀x,bZ (c x))->Le (.v x) (.mp k c m)
 | fn {f:Fn} {cs ds wc X2:List SV}:cH cs ds->cH wc X2->Le (.fn f cs wc) (.fn f ds X2)
inductive cH:List SV->List SV->Prop
 | nil:cH [] []
 | cons {x y:SV} {xs ys:List SV}:Le x y->cH xs ys->cH (x :: xs) (y :: ys)
end
theorem AY {η:Nat->Value} {q:Nat->Live} {H:aV} {s s':List SV} {v:List Value} (h:aK η q H (s++s') v) :
  aK η q H s (v.take s.length)/\aK η q H s' (v.drop s.length):=by
 have h1:=A9 h s.length
 have h2:=A8 h s.length
 simp only [A5,List.drop_left] at h1 h2
 exact ⟨h1,h2⟩
theorem yL {η:Nat->Value} {q:Nat->Live} {H:aV} {T:Type} {c:T->List SV} {sz:Nat} :
  ∀{xs:List T} {v:List Value},(∀x∈xs,(c x).length=sz)->aK η q H (xs.flatMap c) v->∀(j:Nat) (x:T),xs[j]?=some x ->
   aK η q H (c x) ((v.drop (j*sz)).take sz)
 | [],v,_,_,j,x,hx=>by simp at hx
 | y :: r,v,hl,h,j,x,hx=>by
  have hy:(c y).length=sz:=hl y (by simp)
  rw [oZ] at h
  obtain ⟨h1,h2⟩:=AY h
  rw [hy] at h1 h2
  cases j with
  | zero=>simp at hx;subst hx;simpa using h1
  | succ j =>
   have:=yL (λx hx=>hl x (by simp [hx])) h2 j x (by simpa using hx)
   rw [List.drop_drop] at this
   rw [show (j+1)*sz=sz+j*sz by rw [Nat.add_mul];omega]
   exact this
mutual
theorem rM {η:Nat->Value} {q:Nat->Live} {H:aV}:∀{x y:SV},Le x y->∀{v:Value},rel η q H x v->rel η q H y v
 | _,_,.refl _,_,h=>h
 | _,_,.any _,_,_=>by simp [rel]
 | _,_,.cell h1,_,h=>by simp only [rel];exact vG h1 h
 | _,_,.b e,_,h=>by simp only [rel] at h ⊢;rw [<-e];exact h
 | _,_,.bc e,_,h=>by simp only [rel] at h ⊢;rw [<-e];exact h
 | _,_,.EA e,_,h=>by simp only [rel] at h ⊢;rw [<-e];exact h
 | _,_,.i e,_,h=>by simp only [rel] at h ⊢;rw [<-e];exact h
 | _,_,.ic e,_,h=>by simp only [rel] at h ⊢;rw [<-e];exact h
 | _,_,.ahO e,_,h=>by simp only [rel] at h ⊢;rw [<-e];exact h
 | _,_,.str e,_,h=>by simp only [rel] at h ⊢;rw [<-e];exact h
 | _,_,.v e,_,h=>by simp only [rel] at h ⊢;rw [<-e];exact h
 | _,_,.agg e,_,h=>by
  simp only [rel] at h ⊢
  obtain ⟨vs,h1,h2⟩:=h
  exact ⟨vs,h1,iL e h2⟩
 | _,_,.opt t ht bV e,_,h=>by
  simp only [rel]
  exact ⟨⟨t,ht,rM e h⟩,bV⟩
 | _,_,.bX e,_,h=>by
  simp only [rel] at h ⊢
  obtain ⟨vs,h1,h2⟩:=h
  exact ⟨vs,h1,iL e h2⟩
 | _,_,.sl e,_,h=>by simp only [rel] at h ⊢;rw [<-e];exact h
 | _,_,@Le.slm T T' sz c c' xs ys e1 bV e2,_,h=>by
  simp only [rel] at h ⊢
  obtain ⟨⟨ad,cap,h1,h0,h2⟩,_⟩:=h
  refine ⟨⟨ad,cap,by rw [<-e1];exact h1,by omega,?_⟩,bV⟩
  rcases h2 with h2|⟨a,h3,h4,h5⟩
  ·left;exact gL (by rw [<-e1,h2];rfl)
  ·right
   refine ⟨a,h3,h4,λj y hy=>?_⟩
   have hj:j < (xs ()).length:=by rw [e1];exact (bq.1 hy).1
   obtain ⟨vals,g1,g2,g3⟩:=h5 j _ (eB hj)
   exact ⟨vals,g1,iL (e2 j _ y (eB hj) hy) g2,g3⟩
 | _,_,.cD e bV,_,h=>by simp only [rel] at h ⊢;rw [e];exact ⟨⟨none,0,h,by simp,.inl rfl⟩,bV⟩
 | _,_,@Le.dF T cs n sz c ys e1 e2 bV e3,_,h=>by
  simp only [rel] at h ⊢
  obtain ⟨ad,h1,h2⟩:=h
  refine ⟨⟨ad,n,by rw [e1];exact h1,by omega,?_⟩,bV⟩
  rcases h2 with h2|⟨a,h3,h4,vals,h5,h6⟩
  ·left;exact gL (by omega)
  ·right
   refine ⟨a,h3,h4,λj x hx=>?_⟩
   have h7:=iL e3 h5
   have h8:=yL e2 h7 j x hx
   refine ⟨_,?_,h8,?_⟩
   ·rw [ik h8];exact e2 x (cL hx)
   ·intro i u hu
    rw [kP] at hu
    split at hu
    ·rw [jk] at hu
     have:=h6 _ u hu
     rwa [<-Nat.add_assoc] at this
    ·cases hu
 | _,_,.cZ e,_,h=>by
  simp only [rel] at h ⊢
  obtain ⟨a,h1,vals,h2,h3⟩:=h
  exact ⟨a,h1,vals,iL e h2,h3⟩
 | _,_,.fq e,_,h=>by simp only [rel] at h ⊢;rw [<-e];exact h
 | _,_,.eh e e',_,h=>by simp only [rel] at h ⊢;rw [<-e,<-e'];exact h
 | _,_,.mp e,_,h=>by simp only [rel] at h ⊢;rw [<-e];exact h
 | _,_,.fu e,_,h=>by simp only [rel] at h ⊢;rw [<-e];exact h
 | _,_,.nX e,_,h=>by
  simp only [rel] at h ⊢
  rw [<-e]
  obtain ⟨⟨ad,h1,h2⟩,bV⟩:=h
  exact ⟨⟨ad,_,h1,fP _,h2⟩,bV⟩
 | _,_,.ahP e e' bV,_,h=>by simp only [rel] at h ⊢;exact ⟨.inl ⟨h.trans e,e'⟩,bV⟩
 | _,_,.fn e e',_,h=>by
  simp only [rel] at h ⊢
  obtain ⟨fs,cs,h1,h2,h3⟩:=h
  exact ⟨fs,cs,h1,iL e h2,iL e' h3⟩
theorem iL {η:Nat->Value} {q:Nat->Live} {H:aV}:∀{x y:List SV},cH x y->∀{v:List Value},aK η q H x v->aK η q H y v
 | _,_,.nil,_,h=>h
 | _,_,.cons e r,_,h=>by
  simp only [aK] at h ⊢
  obtain ⟨u,us,h1,h2,h3⟩:=h
  exact ⟨u,us,h1,rM e h2,iL r h3⟩
end
inductive TD where
 | int (k:IntKind)
 | bool
 | str
 | sl (e:TypeId)
 | ptr (e:TypeId)
 | st (fs:List (TypeId × Nat × Nat))
 | arr (n:Nat) (e:TypeId)
 | map (k v:TypeId)
 | other
structure TI where
 d:TD
 size:Nat
 bytes:Nat
 zero:Value
 flat:Bool:=false
 kd:Option (List IntKind):=none
def TI.agg (i:TI):Bool:=match i.d with|.st _|.arr _ _=>true|_=>false
def xD:Value->Value->Bool
 | .bool a,.bool b=>a == b
 | .int k a,.int k' b=>a == b
 | .string a,.string b=>a == b
 | _,_=>false
def pP:List Value->List Value->Bool
 | a :: as,b :: bs=>xD a b&&pP as bs
 | _,_=>true
def rK:Value->Value->Bool
 | .bool _,.bool _=>true
 | .int k _,.int k' _=>k == k'
 | .string _,.string _=>true
 | _,_=>false
def nM:List Value->List Value->Bool
 | a :: as,b :: bs=>rK a b&&nM as bs
 | [],[]=>true
 | _,_=>false
structure xE (P:Program) (kt:TypeId) (k:KD):Prop where
 check:∀(n:k.T),k.ok n->∀em w,(Instr.checkKey em 10000 kt (k.enc n)).run P w=.ok () w
 find:∀(n:k.T),k.ok n->∀(es:List MapEntry),(∀e∈es,∃n',k.ok n'/\e.key=k.enc n')->∀w,
  ((Instr.findKey kt (k.enc n) es).run P w=.ok none w/\∀e∈es,e.key≠k.enc n)\/∃j e,(Instr.findKey kt (k.enc n) es).run P w=.ok (some (j,e.val)) w/\es[j]?=some e/\e.key=k.enc n
 stays:∀(n:k.T),k.ok n->∀w,(Instr.keyThatStays (k.enc n) (k.enc n)).run P w=.ok (k.enc n) w
structure kR (P:Program) (t:TypeId) (i:TI):Prop where
 info:∃inf,P.info? t=some inf/\inf.size=i.size/\inf.bytes=i.bytes/\inf.zero=some i.zero
 vL:i.zero.cells.size=i.size
 pos:0 < i.size
 desc:match i.d with
  | .int k=>P.underlying t=some (.int k)
  | .bool=>P.underlying t=some .bool
  | .str=>P.underlying t=some .string
  | .sl e=>P.underlying t=some (.slice e)
  | .ptr e=>P.underlying t=some (.pointer e)
  | .st gs=>∃fs:Array Field,P.underlying t=some (.struct fs)/\fs.size=gs.length /\
    ∀(j:Nat) (f:Field),fs[j]?=some f->∃inf,P.info? f.type=some inf/\inf.size≠0/\gs[j]?=some (f.type,f.offset,inf.size)
  | .arr n e=>P.underlying t=some (.array n e)
  | .map k v=>P.underlying t=some (.map k v)
  | .other=>∃d,P.underlying t=some d/\(∀x,d≠.struct x)/\(∀n e,d≠.array n e)
 flat:i.flat=true->i.agg=true/\∀(vs us:List Value) (w:World),vs.length=i.size->us.length=i.size ->
  nM vs us=true->nM vs i.zero.cells.toList=true->∀op x y,(op=.eql\/op=.neq) ->
  (do eqGuard op t x y (.agg vs.toArray) (.agg us.toArray);binOp op t (.agg vs.toArray) (.agg us.toArray):Sem Value).run P w =
   .ok (.bool (if op=.eql then pP vs us else !pP vs us)) w
 key:∀ks,i.kd=some ks->xE P t (.ints ks)
structure gD:Type 1 where
 T:Type
 c:T->List SV
 z:T
structure Spec:Type 1 where
 α:Type
 args:α->List SV
 pre:α->Prop
 res:α->SV
 fr:Bool:=false
structure Ctx:Type 1 where
 tt:TypeId->Option TI
 el:TypeId->Option gD
 sp:FuncId->Option Spec
 inl:FuncId->Option Func
 cut:Nat->Bool:=λ_=>false
 lp:FuncId->Bool:=λ_=>false
 io:FuncId->Bool:=λ_=>false
 row:TypeId->Bool:=λ_=>false
 emp:TypeId->Bool:=λ_=>false
def aV.gQ (H:aV) (w:World):Prop:=∀b o,H b=some o->w.heap[b]?=some o
structure kA (P:Program) (f:FuncId) (fn:Func):Prop where
 get:P.funcs[f]?=some fn
 body:fn.body.isSome=true
 name : (fn.name == "runtime.NumGoroutine") = false
structure dm (P:Program) (f:FuncId) (S:Spec):Prop where
 fn:∃fn,kA P f fn
 lf:∀a,bZ (S.args a)
 lr:∀a,LF (S.res a)
 run:∀a,S.pre a->∀(H F:aV) (w:World) (vals:List Value),H.gQ w->F.gQ w->cW H (S.args a) vals ->
  Calls P f vals.toArray w λe w'=>∃v H',e=.returned v/\H.le H'/\H'.gQ w'/\F.gQ w' /\
   (∀b,H' b≠none->H b≠none\/F b=none)/\n9 H' (S.res a) v/\w'.os=w.os/\w'.tape=w.tape/\w'.output=w.output
 fresh:S.fr=true->∀a,S.pre a->∀(H F:aV) (w:World) (vals:List Value),H.gQ w->F.gQ w->cW H (S.args a) vals ->
  Calls P f vals.toArray w λe w'=>∃v N,e=.returned v/\H.gQ w'/\F.gQ w'/\aV.gQ N w'/\(∀b,N b≠none->H b=none/\F b=none)/\n9 N (S.res a) v /\
   w'.os=w.os/\w'.tape=w.tape/\w'.output=w.output
structure BI (P:Program) (X:Ctx) (t:TypeId) (E:gD):Prop where
 ti:∃i,X.tt t=some i
 len:∀i,X.tt t=some i->∀x,(E.c x).length=i.size
 lf:∀x,bZ (E.c x)/\(E.c x).all SV.one=true
 zero:∀i,X.tt t=some i->∀H,cW H (E.c E.z) i.zero.cells.toList
structure Ctx.Ok (P:Program) (X:Ctx):Prop where
 tt:∀t i,X.tt t=some i->kR P t i
 el:∀t E,X.el t=some E->BI P X t E
 sp:∀f S,X.sp f=some S->dm P f S
 inl:∀f fn,X.inl f=some fn->kA P f fn
 mixed:P.follows .mixedOrders=true
def jz:Value->SV
 | .bool c=>.bc c
 | .int k n=>.ic k n
 | .string s=>.str λ_=>s
 | .slice none 0 0=>.cD
 | v=>.v λ_=>v
def we:Value->SV
 | .agg cs=>.agg (cs.toList.map jz)
 | v=>jz v
def ev (s:St):Operand->SV
 | .tmp t=>(s.t[t]?).getD .any
 | .const v=>we v
 | .global g=>.v λ_=>.pointer (some ⟨g,0,none⟩)
 | .func f=>.fn (.func f) [] []
def SV.cells?:SV->Option (List SV)
 | .agg cs=>if cs.all SV.one then some cs else none
 | x=>if x.one then some [x] else none
def SV.Cn:SV->Option (Unit->Bool)
 | .bc c=>some λ_=>c
 | .b x=>some x
 | _=>none
def SV.ja:SV->Option (IntKind × (Unit->Int))
 | .ic k n=>some (k,λ_=>n)
 | .i k n=>some (k,n)
 | _=>none
def gM (b:List Slot):Nat->SV->SV
 | 0,x=>x
 | n+1,.own l=>match b[l]? with
  | some (.dyn e sz c xs)=>.sl sz c xs
  | _=>.own l
 | n+1,.eh l sz m k=>match b[l]? with
  | some (.dyn e jb c xs)=>(match Nat.beq sz jb with
   | true=>.sl jb c λ_=>((xs ()).take (k ())).drop (m ())
   | false=>.eh l sz m k)
  | _=>.eh l sz m k
 | n+1,.ptr l off=>match b[l]? with
  | some (.fix e cs)=>.cZ (cs.map (gM b n)) off
  | _=>.ptr l off
 | n+1,.fm l=>match b[l]? with
  | some (.map k c m)=>.mp k c m
  | _=>.fm l
 | n+1,.fn f xs ys=>.fn f (xs.map (gM b n)) (ys.map (gM b n))
 | n+1,.agg cs=>.agg (cs.map (gM b n))
 | n+1,.bX cs=>.bX (cs.map (gM b n))
 | n+1,x=>x
def view (b:List Slot):SV->SV:=gM b 4
mutual
def SV.scalar:SV->Bool
 | .bc _|.b _|.ic ..|.i ..|.str _=>true
 | .bX cs=>xo cs
 | .agg cs=>xo cs
 | _=>false
def xo:List SV->Bool
 | []=>true
 | x :: r=>x.scalar&&xo r
end
inductive dH:Type 1 where
 | fail
 | pure (x:SV) (u:List (Nat × Slot))
 | lV (p:Unit->Prop) (x:SV) (u:List (Nat × Slot))
 | ex (T:Type) (p:T->Prop) (x:T->SV) (u:T->List (Nat × Slot))
def dH.K:dH->(SV->List (Nat × Slot)->Prop)->Prop
 | .fail,_=>False
 | .pure x u,k=>k x u
 | .lV p x u,k=>vV p/\k x u
 | .ex T p x u,k=>∃t,vV (λ_=>p t)/\k (x t) (u t)
def ka (b:List Slot):List (Nat × Slot)->List Slot
 | []=>b
 | (l,x) :: r=>ka (b.set l x) r
def St.iw (s:St) (dst:Option Tmp) (x:SV) (u:List (Nat × Slot)):St :=
 { t:=match dst with|some d=>s.t.set d x|none=>s.t,b:=ka s.b u }
def fj (x y:Int):Bool:=decide (x < y)
def jB (x y:Int):Bool:=decide (x<=y)
def gA (x y:Int):Bool:=x == y
def fC (op:BinOp) (k:IntKind) (x y:Int):Int :=
 k.wrap (match op with
  | .and=>(BitVec.ofInt k.bits x &&& BitVec.ofInt k.bits y).toNat
  | .or=>(BitVec.ofInt k.bits x ||| BitVec.ofInt k.bits y).toNat
  | .xor=>(BitVec.ofInt k.bits x ^^^ BitVec.ofInt k.bits y).toNat
  | _=>(BitVec.ofInt k.bits x &&& ~~~ BitVec.ofInt k.bits y).toNat:Nat)
def IG:SV->SV->Option (Unit->Bool)
 | .bc a,.bc b=>some λ_=>a == b
 | .bc a,.b y=>some λ_=>a == y ()
 | .b x,.bc b=>some λ_=>x () == b
 | .b x,.b y=>some λ_=>x () == y ()
 | .ic k a,.ic k' b=>if k=k' then some λ_=>a == b else none
 | .ic k a,.i k' y=>if k=k' then some λ_=>a == y () else none
 | .i k x,.ic k' b=>if k=k' then some λ_=>x () == b else none
 | .i k x,.i k' y=>if k=k' then some λ_=>x () == y () else none
 | .str x,.str y=>some λ_=>x () == y ()
 | _,_=>none
def xF:List SV->List SV->Option (Unit->Bool)
 | [],[]=>some λ_=>true
 | x :: xs,y :: ys=>match IG x y,xF xs ys with
  | some f,some g=>some λ_=>f ()&&g ()
  | _,_=>none
 | _,_=>none
def By (op:BinOp) (k:IntKind) (a b:Int):dH :=
 match op with
 | .add=>.pure (.ic k (k.wrap (a+b))) []
 | .sub=>.pure (.ic k (k.wrap (a - b))) []
 | .mul=>.pure (.ic k (k.wrap (a*b))) []
 | .eql=>.pure (.bc (gA a b)) []
 | .neq=>.pure (.bc (!gA a b)) []
 | .lss=>.pure (.bc (fj a b)) []
 | .leq=>.pure (.bc (jB a b)) []
 | .gtr=>.pure (.bc (fj b a)) []
 | .geq=>.pure (.bc (jB b a)) []
 | _=>.fail
def xx (op:BinOp) (k:IntKind) (x y:Unit->Int):dH :=
 match op with
 | .add=>.pure (.i k λ_=>k.wrap (x ()+y ())) []
 | .sub=>.pure (.i k λ_=>k.wrap (x () - y ())) []
 | .mul=>.pure (.i k λ_=>k.wrap (x ()*y ())) []
 | .quo=>.lV (λ_=>y ()≠0) (.i k λ_=>k.wrap ((x ()).tdiv (y ()))) []
 | .rem=>.lV (λ_=>y ()≠0) (.i k λ_=>(x ()).tmod (y ())) []
 | .and=>.pure (.i k λ_=>fC .and k (x ()) (y ())) []
 | .or=>.pure (.i k λ_=>fC .or k (x ()) (y ())) []
 | .xor=>.pure (.i k λ_=>fC .xor k (x ()) (y ())) []
 | .andNot=>.pure (.i k λ_=>fC .andNot k (x ()) (y ())) []
 | .eql=>.pure (.b λ_=>gA (x ()) (y ())) []
 | .neq=>.pure (.b λ_=>!gA (x ()) (y ())) []
 | .lss=>.pure (.b λ_=>fj (x ()) (y ())) []
 | .leq=>.pure (.b λ_=>jB (x ()) (y ())) []
 | .gtr=>.pure (.b λ_=>fj (y ()) (x ())) []
 | .geq=>.pure (.b λ_=>jB (y ()) (x ())) []
 | _=>.fail
def uq (x y:ByteArray):Bool:=Op.bytesLess x.toList y.toList
def uA (x y:ByteArray):Bool:=x.toList == y.toList
def za:BinOp->Bool
 | .shl|.shr=>true
 | _=>false
def ad5:BinOp->Bool
 | .add|.sub|.mul|.eql|.neq|.lss|.leq|.gtr|.geq=>true
 | _=>false
def MK:SV->SV->Option (Unit->Prop)
 | .sl sz c xs,.cD=>some λ_=>xs ()=[]
 | .cD,.sl sz c xs=>some λ_=>xs ()=[]
 | .own _,.cD=>some λ_=>True
 | .cD,.own _=>some λ_=>True
 | _,_=>none
def ML:SV->SV->Option (Bool × (Unit->Prop))
 | .v a,.v b=>some (true,λ_=>a ()=.map none/\b ()=.map none)
 | .mp k c m,.v b=>some (false,λ_=>b ()=.map none/\∃n,m () n≠none)
 | .v a,.mp k c m=>some (false,λ_=>a ()=.map none/\∃n,m () n≠none)
 | _,_=>none
def IH (
     X:Ctx) (op:BinOp) (t:TypeId) (x y:SV):dH :=
 match za op with
 | true=>match x.ja,y.ja with
  | some (k,m),some (_,n) =>
   .lV (λ_=>0<=n ()) (.i k λ_=>match op with
    | .shl=>k.wrap (m ()*2^(min (n ()).toNat k.bits))
    | _=>(m ()).fdiv (2^(min (n ()).toNat k.bits))) []
  | _,_=>.fail
 | false=>match ad5 op,x,y with
  | true,.ic k a,.ic k' b=>if k=k' then By op k a b else .fail
  | _,x,y=>match x.ja,y.ja with
   | some (k,m),some (k',n)=>if k=k' then xx op k m n else .fail
   | _,_ =>
        match x,y with
    | .str m,.str n=>match op with
     | .add=>.lV (λ_=>(m ()).size+(n ()).size < 9223372036854775808) (.str λ_=>m ()++n ()) []
     | .eql=>.pure (.b λ_=>uA (m ()) (n ())) []
     | .neq=>.pure (.b λ_=>!uA (m ()) (n ())) []
     | .lss=>.pure (.b λ_=>uq (m ()) (n ())) []
     | .leq=>.pure (.b λ_=>uq (m ()) (n ())||uA (m ()) (n ())) []
     | .gtr=>.pure (.b λ_=>!(uq (m ()) (n ())||uA (m ()) (n ()))) []
     | .geq=>.pure (.b λ_=>!uq (m ()) (n ())) []
     | _=>.fail
    | .agg cs,.agg ds=>match X.tt t with
     | some i=>if i.flat&&cs.length == i.size&&ds.length == i.size then match xF cs ds,xF cs (i.zero.cells.toList.map jz) with
       | some f,some _=>match op with
        | .eql=>.pure (.b f) []
        | .neq=>.pure (.b λ_=>!f ()) []
        | _=>.fail
       | _,_=>.fail
      else .fail
     | none=>.fail
    | x,y=>match X.tt t with
     | some i=>match i.d with
      | .bool=>match IG x y,x.Cn,y.Cn with
       | some f,some _,some _=>match op with
        | .eql=>.pure (.b f) []
        | .neq=>.pure (.b λ_=>!f ()) []
        | _=>.fail
       | _,_,_=>.fail
      | .map _ _=>match ML x y with
       | some (d,p)=>match op with
        | .eql=>.lV p (.bc d) []
        | .neq=>.lV p (.bc (!d)) []
        | _=>.fail
       | none=>.fail
      | .sl _=>match MK x y with
       | some p=>match op with
        | .eql=>.pure (.nb true p) []
        | .neq=>.pure (.nb false p) []
        | _=>.fail
       | none=>match x,y,op with
        | .cD,.cD,.eql=>.pure (.bc true) []
        | .cD,.cD,.neq=>.pure (.bc false) []
        | _,_,_=>.fail
      | _=>.fail
     | none=>.fail
def Jl (op:UnOp) (x:SV):dH :=
 match op,x with
 | .not,.bc c=>.pure (.bc (!c)) []
 | .not,.b x=>.pure (.b λ_=>!x ()) []
 | .not,.nb d p=>.pure (.nb (!d) p) []
 | .neg,.ic k n=>.pure (.ic k (k.wrap (0 - n))) []
 | .neg,.i k n=>.pure (.i k λ_=>k.wrap (0 - n ())) []
 | .xor,.i k n=>match k.signed with
  | true=>.pure (.i k λ_=>fC .xor k (-1) (n ())) []
  | false=>.fail
 | _,_=>.fail
def H8 (c a b:SV):dH :=
 match c with
 | .bc true=>.pure a []
 | .bc false=>.pure b []
 | .b x=>match a.Cn,b.Cn with
  | some f,some g=>.pure (.b λ_=>if x () then f () else g ()) []
  | _,_=>.fail
 | _=>.fail
def H9 (X:Ctx) (src dst:TypeId) (x:SV):dH :=
 match X.tt src,X.tt dst with
 | some i,some j=>match j.d,x with
  | .int k,.ic _ n=>.pure (.ic k (k.wrap n)) []
  | .int k,.i _ n=>.pure (.i k λ_=>k.wrap (n ())) []
  | .str,.str x=>.pure (.str x) []
  | _,_=>.fail
 | _,_=>.fail
def rQ (i:TI) (cs:List SV) (off:Nat):Option SV :=
 if off+i.size<=cs.length then
  if i.agg then some (.agg ((cs.drop off).take i.size)) else cs[off]?
 else none
def zr (X:Ctx) (b:List Slot) (t:TypeId) (x:SV):dH :=
 match X.tt t with
 | none=>.fail
 | some i=>match x with
  | .ptr l off=>match b[l]? with
   | some (.fix e cs)=>match rQ i cs off with
    | some v=>.pure v []
    | none=>.fail
   | _=>.fail
  | .cZ cs off=>match rQ i cs off with
   | some v=>.pure v []
   | none=>.fail
  | .fq l sz j off=>match b[l]? with
   | some (@Slot.dyn T e jb c xs)=>if sz=jb then
     .ex T (λx=>(xs ())[j ()]?=some x/\(rQ i (c x) off).isSome=true) (λx=>(rQ i (c x) off).getD .any) (λ_=>[])
    else .fail
   | _=>.fail
  | _=>.fail
def putCells:List SV->Nat->List SV->List SV
 | cs,_,[]=>cs
 | cs,o,x :: xs=>putCells (cs.set o x) (o+1) xs
def xy (
      X:Ctx) (b:List Slot) (t:TypeId) (x y:SV):dH :=
 match X.tt t,y.cells? with
 | some i,some ys=>if ys.length=i.size then match x with
  | .ptr l off=>match b[l]? with
   | some (.fix e cs)=>if off+i.size<=cs.length then .pure .any [(l,.fix e (putCells cs off ys))] else .fail
   | _=>.fail
  | .fq l sz j off=>match b[l]? with
   | some (@Slot.dyn T e jb c xs)=>if sz=jb/\off+i.size<=sz then
     .ex (T × T) (λp=>(xs ())[j ()]?=some p.1/\(c p.2).length=sz/\cH (putCells (c p.1) off ys) (c p.2)) (λ_=>.any)
      (λp=>[(l,.dyn e jb c λ_=>(xs ()).set (j ()) p.2)])
    else .fail
   | _=>.fail
  | _=>.fail
  else .fail
 | _,_=>.fail
def Dg (X:Ctx) (t:TypeId) (x:SV) (j:Nat):dH :=
 match X.tt t with
 | some i=>match i.d with
  | .st fs=>match fs[j]? with
   | some (_,o,_)=>match x with
    | .ptr l off=>.pure (.ptr l (off+o)) []
    | .cZ cs off=>.pure (.cZ cs (off+o)) []
    | .fq l sz k off=>.pure (.fq l sz k (off+o)) []
    | _=>.fail
   | none=>.fail
  | _=>.fail
 | none=>.fail
def wW (X:Ctx) (b:List Slot) (t:TypeId) (x ix:SV):dH :=
 match X.tt t with
 | none=>.fail
 | some i =>
       match i.d with
  | .arr n e=>match X.tt e,ix with
   | some j,.ic k m=>if 0<=m/\m.toNat < n then match x with
    | .ptr l off=>.pure (.ptr l (off+m.toNat*j.size)) []
    | .cZ cs off=>.pure (.cZ cs (off+m.toNat*j.size)) []
    | .fq l sz p off=>.pure (.fq l sz p (off+m.toNat*j.size)) []
    | _=>.fail
    else .fail
   | some j,.i k m=>(match x with
    | .ptr l off=>.ex Nat (λg=>m ()=(g:Int)/\g < n) (λg=>.ptr l (off+g*j.size)) (λ_=>[])
    | .cZ cs off=>.ex Nat (λg=>m ()=(g:Int)/\g < n) (λg=>.cZ cs (off+g*j.size)) (λ_=>[])
    | .fq l sz p off=>.ex Nat (λg=>m ()=(g:Int)/\g < n) (λg=>.fq l sz p (off+g*j.size)) (λ_=>[])
    | _=>.fail)
   | _,_=>.fail
  | .sl e=>match X.tt e,ix.ja with
   | some j,some (k,m)=>match x with
    | @SV.sl T sz c xs=>if sz=j.size then
      .ex T (λy=>0<=m ()/\(xs ())[(m ()).toNat]?=some y) (λy=>.cZ (c y) 0) (λ_=>[])
     else .fail
    | .own l=>match b[l]? with
     | some (.dyn e' sz c xs)=>if sz=j.size then
       .lV (λ_=>0<=m ()/\(m ()).toNat < (xs ()).length) (.fq l sz (λ_=>(m ()).toNat) 0) []
      else .fail
     | _=>.fail
    | .eh l sz g h=>match b[l]? with
     | some (.dyn e' jb c xs)=>if sz=j.size then
       .lV (λ_=>0<=m ()/\(m ()).toNat < h () - g ()) (.fq l sz (λ_=>g ()+(m ()).toNat) 0) []
      else .fail
     | _=>.fail
    | .dF cs n=>match ix with
     | .ic _ m=>if 0<=m/\m.toNat < n/\cs.length=n*j.size then .pure (.cZ ((cs.drop (m.toNat*j.size)).take j.size) 0) [] else .fail
     | .i _ m=>match X.el e with
      | some E=>.ex (E.T × List E.T) (λy=>cH cs (y.2.flatMap E.c)/\y.2.length=n/\0<=m ()/\y.2[(m ()).toNat]?=some y.1) (λy=>.cZ (E.c y.1) 0) (λ_=>[])
      | none=>.fail
     | _=>.fail
    | _=>.fail
   | _,_=>.fail
  | _=>.fail
def HF (X:Ctx) (t:TypeId) (x ix:SV):dH :=
 match X.tt t with
 | none=>.fail
 | some i=>match i.d,x with
  | .str,.str s=>match ix.ja with
   | some (k,m)=>.lV (λ_=>0<=m ()/\(m ()).toNat < (s ()).size) (.i .u8 λ_=>((s ()).data.toList.getD (m ()).toNat 0).toNat) []
   | none=>.fail
  | .arr n e,.agg cs=>match X.tt e,ix with
   | some j,.ic k m=>if 0<=m/\m.toNat < n/\n*j.size=cs.length then match rQ j cs (m.toNat*j.size) with
     | some v=>.pure v []
     | none=>.fail
    else .fail
   | some j,.i k m=>if n*j.size=cs.length then
     .ex Nat (λg=>m ()=(g:Int)/\g < n/\(rQ j cs (g*j.size)).isSome=true) (λg=>(rQ j cs (g*j.size)).getD .any) (λ_=>[])
    else .fail
   | _,_=>.fail
  | _,_=>.fail
def zt (place:Nat->Option (Nat × Nat)):List (Nat × SV)->List SV->Option (List SV)
 | [],cs=>some cs
 | (j,x) :: r,cs=>match place j,x.cells? with
  | some (off,size),some ys=>if ys.length=size/\off+ys.length<=cs.length then zt place r (putCells cs off ys) else none
  | _,_=>none
def HG (X:Ctx) (t:TypeId) (parts:List (Nat × SV)):dH :=
 match X.tt t with
 | none=>.fail
 | some i=>match i.d with
  | .st fs=>match zt (λj=>(fs[j]?).map (·.2)) parts (i.zero.cells.toList.map jz) with
   | some cs=>.pure (.agg cs) []
   | none=>.fail
  | .arr n e=>match X.tt e with
   | some k=>match zt (λj=>some (j*k.size,k.size)) parts (i.zero.cells.toList.map jz) with
    | some cs=>.pure (.agg cs) []
    | none=>.fail
   | none=>.fail
  | _=>.fail
def rZ {α:Type 1} (xs:List α):Nat->List α
 | 0=>[]
 | n+1=>xs++rZ xs n
def Dd (X:Ctx) (l:Nat) (t:TypeId) (n:Nat) (parts:List (Nat × SV)):dH :=
 match X.tt t with
 | none=>.fail
 | some i =>
       match i.d with
  | .sl e=>match X.tt e with
   | none=>.fail
   | some k=>match n with
    | 0=>match parts,X.el e with
     | [],some E=>match X.emp t with
      | false=>.pure (.own l) [(l,.dyn e k.size E.c λ_=>[])]
      | true=>.pure (.sl k.size E.c λ_=>[]) []
     | _,_=>.fail
    | n+1=>if (n+1)*k.size<=16777216 then
      match zt (λj=>some (j*k.size,k.size)) parts (rZ (k.zero.cells.toList.map jz) (n+1)) with
      | some cs=>match X.row t with
       | false=>.pure (.dF cs (n+1)) []
       | true=>match X.el e with
        | some E=>.ex (List E.T) (λys=>cH cs (ys.flatMap E.c)/\ys.length=n+1) (λ_=>.own l) (λys=>[(l,.dyn e k.size E.c λ_=>ys)])
        | none=>.fail
      | none=>.fail
     else .fail
  | _=>.fail
def Dh (X:Ctx) (l:Nat) (t:TypeId) (len cap:SV):dH :=
 match X.tt t with
 | none=>.fail
 | some i=>match i.d with
  | .sl e=>match X.tt e,X.el e,len.ja,cap.ja with
   | some k,some E,some (_,n),some (_,m) =>
    .lV (λ_=>0<=n ()/\n ()<=m ()/\(k.bytes:Int)*m ()<=281474976710656/\m ()<=9223372036854775807) (.own l)
     [(l,.dyn e k.size E.c λ_=>List.replicate (n ()).toNat E.z)]
   | _,_,_,_=>.fail
  | _=>.fail
def top (b:List Slot):SV->SV
 | .own l=>match b[l]? with
  | some (.dyn e sz c xs)=>.sl sz c xs
  | _=>.own l
 | .eh l sz m k=>match b[l]? with
  | some (.dyn e jb c xs)=>(match Nat.beq sz jb with
   | true=>.sl jb c λ_=>((xs ()).take (k ())).drop (m ())
   | false=>.eh l sz m k)
  | _=>.eh l sz m k
 | x=>x
def xG (X:Ctx) (b:List Slot) (t:TypeId) (s x:SV):dH :=
 match X.tt t with
 | none=>.fail
 | some i =>
       match i.d with
  | .sl e=>match X.tt e,s with
   | some k,.own l0=>match b[l0]? with
    | some (@Slot.dyn T e' sz c xs)=>if e'=e/\sz=k.size/\sz=1 then
      .ex (List T) (λys=>Le (top b x) (.sl sz c λ_=>ys)) (λys=>.i .i64 λ_=>((min (xs ()).length ys.length:Nat):Int))
       (λys=>[(l0,.dyn e sz c λ_=>ys.take (xs ()).length++(xs ()).drop ys.length)])
     else .fail
    | _=>.fail
   | _,_=>.fail
  | _=>.fail
def xz (
      X:Ctx) (b:List Slot) (t:TypeId) (x:SV):dH :=
 match X.tt t with
 | none=>.fail
 | some i =>
       match i.d with
  | .sl e=>match X.tt e,x with
   | some k,.eh l0 sz g h=>match b[l0]? with
    | some (@Slot.dyn T e' jb c xs)=>if e'=e/\jb=k.size/\sz=1/\k.size=1/\k.agg=false then
      .ex T (λz=>cH (k.zero.cells.toList.map jz) (c z)) (λ_=>.bX [])
       (λz=>[(l0,.dyn e jb c λ_=>(xs ()).take (g ())++List.replicate (h () - g ()) z++(xs ()).drop (g ()+(h () - g ())))])
     else .fail
    | _=>.fail
   | _,_=>.fail
  | _=>.fail
def Cp (g:Int->Int->Int) (x y:SV):dH :=
 match x.ja,y.ja with
 | some (k,m),some (k',n)=>if k=k' then .pure (.i k λ_=>g (m ()) (n ())) [] else .fail
 | _,_=>.fail
def BR (g:Int->Int->Int) (x y z:SV):dH :=
 match x.ja,y.ja,z.ja with
 | some (k,m),some (k',n),some (X3,p)=>if k=k'/\k=X3 then .pure (.i k λ_=>g (g (m ()) (n ())) (p ())) [] else .fail
 | _,_,_=>.fail
def vE (X:Ctx) (b:List Slot) (l:Nat) (t:TypeId) (s x:SV):dH :=
 match X.tt t with
 | none=>.fail
 | some i =>
       match i.d with
  | .sl e=>match X.tt e with
   | none=>.fail
   | some k=>match s with
    | .own l0=>match b[l0]? with
     | some (@Slot.dyn T e' sz c xs)=>if e'=e/\sz=k.size then
       .ex (List T) (λys=>Le (top b x) (.sl sz c λ_=>ys)/\((xs ()).length+ys.length)*k.bytes<=140737488355328/\(xs ()).length+ys.length<=9223372036854775807)
        (λ_=>.own l) (λys=>[(l0,.dead),(l,.dyn e sz c λ_=>xs ()++ys)])
      else .fail
     | _=>.fail
    | .eh l0 Ab g n=>match b[l0]? with
     | some (@Slot.dyn T e' sz c xs)=>if e'=e/\sz=k.size/\Ab=k.size then
       .ex (List T) (λys=>(g ()=0/\n ()<=(xs ()).length)/\Le (top b x) (.sl sz c λ_=>ys)/\(n ()+ys.length)*k.bytes<=140737488355328/\n ()+ys.length<=9223372036854775807)
        (λ_=>.own l) (λys=>[(l0,.dead),(l,.dyn e sz c λ_=>(xs ()).take (n ())++ys)])
      else .fail
     | _=>.fail
    | .cD=>match X.el e with
     | some E=>.ex (List E.T) (λys=>Le (top b x) (.sl k.size E.c λ_=>ys)/\ys.length*k.bytes<=140737488355328/\ys.length<=9223372036854775807)
        (λ_=>.own l) (λys=>[(l,.dyn e k.size E.c λ_=>ys)])
     | none=>.fail
    | @SV.fu T sz c xs=>if sz=k.size then
      .ex (List T) (λys=>Le (top b x) (.sl sz c λ_=>ys)/\((xs ()).length+ys.length)*k.bytes<=140737488355328/\(xs ()).length+ys.length<=9223372036854775807/\ys≠[]/\∀z,(c z).all SV.one=true)
       (λ_=>.own l) (λys=>[(l,.dyn e sz c λ_=>xs ()++ys)])
     else .fail
    | .dF cs (n+1)=>match X.el e,x with
     | some E,.dF ds (m+1)=>.ex (List E.T × List E.T) (λy=>cH cs (y.1.flatMap E.c)/\y.1.length=n+1/\cH ds (y.2.flatMap E.c)/\y.2.length=m+1 /\
        (n+1+(m+1))*k.bytes<=140737488355328/\n+1+(m+1)<=9223372036854775807)
       (λ_=>.own l) (λy=>[(l,.dyn e k.size E.c λ_=>y.1++y.2)])
     | _,_=>.fail
    | _=>.fail
  | _=>.fail
def vB (
       X:Ctx) (b:List Slot) (l:Nat) (t t':TypeId) (s x:SV):dH :=
 match s with
 | .cD=>match X.tt t,X.tt t',x.ja with
  | some i,some i',some (k',n)=>match i.d,i'.d with
   | .sl e,.int _=>match X.tt e,X.el e with
    | some k,some E=>if k.size=1/\k'=.i64 then
      .ex (List E.T) (λys=>(ys.length:Int)=n ()/\(∀y∈ys,cH (k.zero.cells.toList.map jz) (E.c y))/\ys.length*k.bytes<=140737488355328/\ys.length<=9223372036854775807)
       (λ_=>.own l) (λys=>[(l,.dyn e k.size E.c λ_=>ys)])
     else .fail
    | _,_=>.fail
   | _,_=>.fail
  | _,_,_=>.fail
 | .own l0=>match b[l0]? with
  | some (
      @Slot.dyn T e' sz c xs)=>match X.tt t,X.tt t',x.ja with
   | some i,some i',some (k',n)=>match i.d,i'.d with
    | .sl e,.int _=>match X.tt e with
     | some k=>if e'=e/\sz=k.size/\k.size=1/\k'=.i64 then
       .ex (List T) (λys=>(ys.length:Int)=n ()/\(∀y∈ys,cH (k.zero.cells.toList.map jz) (c y))/\((xs ()).length+ys.length)*k.bytes<=140737488355328/\(xs ()).length+ys.length<=9223372036854775807)
        (λ_=>.own l) (λys=>[(l0,.dead),(l,.dyn e sz c λ_=>xs ()++ys)])
      else .fail
     | none=>.fail
    | _,_=>.fail
   | _,_,_=>.fail
  | _=>.fail
 | _=>.fail
def bound (len:Unit->Nat):Option SV->Option (Unit->Int)
 | none=>some λ_=>len ()
 | some x=>match x.ja with
  | some (_,n)=>some n
  | none=>none
def lower:Option SV->Option (Unit->Int)
 | none=>some λ_=>0
 | some x=>match x.ja with
  | some (_,n)=>some n
  | none=>none
def WL:SV->Bool
 | .cD|.own _|.dF ..|.sl ..=>true
 | _=>false
def clip:Option SV->Option SV->Option SV->Bool
 | none,some (.ic _ 0),some (.ic _ 0)=>true
 | _,_,_=>false
def xA (
      X:Ctx) (b:List Slot) (l:Nat) (t:TypeId) (x:SV) (lo hi mx:Option SV):dH :=
 match X.tt t with
 | none=>.fail
 | some i =>
       match i.d with
  | .sl e=>match X.tt e with
   | none=>.fail
   | some k =>
         if clip lo hi mx&&WL x then
     match X.el e with
     | some E=>.pure (.own l) [(l,.dyn e k.size E.c λ_=>[])]
     | none=>.fail
    else match x,mx with
     | @SV.sl T sz c xs,some z=>if sz=k.size then
       match lo,hi.bind SV.ja,z.ja with
       | none,some (_,n),some (_,m)=>.lV (λ_=>n ()=(xs ()).length/\m ()=(xs ()).length) (.fu sz c xs) []
       | _,_,_=>.fail
      else .fail
     | @SV.sl T sz c xs,none=>if sz=k.size then
       match lower lo,bound (λ_=>(xs ()).length) hi with
       | some m,some n=>.lV (λ_=>0<=m ()/\m ()<=n ()/\n ()<=(xs ()).length) (.sl sz c λ_=>((xs ()).take (n ()).toNat).drop (m ()).toNat) []
       | _,_=>.fail
      else .fail
     | .own l0,none=>match b[l0]? with
      | some (.dyn e' sz c xs)=>if sz=k.size then
        match lower lo,bound (λ_=>(xs ()).length) hi with
        | some m,some n=>.lV (λ_=>0<=m ()/\m ()<=n ()/\n ()<=(xs ()).length) (.eh l0 k.size (λ_=>(m ()).toNat) (λ_=>(n ()).toNat)) []
        | _,_=>.fail
       else .fail
      | _=>.fail
     | .eh l0 sz g h,none=>match b[l0]? with
      | some (.dyn e' jb c xs)=>if sz=k.size then
        match lower lo,bound (λ_=>h () - g ()) hi with
        | some m,some n=>.lV (λ_=>0<=m ()/\m ()<=n ()/\(n ()).toNat<=h () - g ()) (.eh l0 k.size (λ_=>g ()+(m ()).toNat) (λ_=>g ()+(n ()).toNat)) []
        | _,_=>.fail
       else .fail
      | _=>.fail
     | .cD,none=>match lo,hi with
      | none,some (.ic _ 0)=>.pure .cD []
      | _,_=>.fail
     | .dF cs n,none=>match X.el e with
      | some E=>match lower lo,bound (λ_=>n) hi with
       | some m,some h=>.ex (List E.T) (λl=>l.length=n/\cH cs (l.flatMap E.c)/\0<=m ()/\m ()<=h ()/\h ()<=n)
         (λl=>.sl k.size E.c λ_=>(l.take (h ()).toNat).drop (m ()).toNat) (λ_=>[])
       | _,_=>.fail
      | none=>.fail
     | _,_=>.fail
  | .str=>match x,mx with
   | .str s,none=>match lower lo,bound (λ_=>(s ()).size) hi with
    | some m,some n=>.lV (λ_=>0<=m ()/\m ()<=n ()/\n ()<=(s ()).size) (.str λ_=>(s ()).extract (m ()).toNat (n ()).toNat) []
    | _,_=>.fail
   | _,_=>.fail
  | .arr n e=>match X.tt e,X.el e with
   | some k,some E=>match x,mx with
    | .cZ cs off,none=>match lower lo,bound (λ_=>n) hi with
     | some m,some h=>.ex (List E.T) (λl=>l.length=n/\cH ((cs.drop off).take (n*k.size)) (l.flatMap E.c)/\0<=m ()/\m ()<=h ()/\h ()<=n)
       (λl=>.sl k.size E.c λ_=>(l.take (h ()).toNat).drop (m ()).toNat) (λ_=>[])
     | _,_=>.fail
    | _,_=>.fail
   | _,_=>.fail
  | _=>.fail
def zI (X:Ctx) (b:List Slot) (t:TypeId) (x:SV):dH :=
 match X.tt t with
 | none=>.fail
 | some i=>match i.d,x with
  | .str,.str s=>.pure (.i .i64 λ_=>(s ()).size) []
  | .arr n _,_=>.pure (.ic .i64 n) []
  | .sl _,.cD=>.pure (.ic .i64 0) []
  | .sl _,.dF _ n=>.pure (.ic .i64 n) []
  | .sl _,.sl sz c xs=>.pure (.i .i64 λ_=>(xs ()).length) []
  | .sl _,.fu sz c xs=>.pure (.i .i64 λ_=>(xs ()).length) []
  | .sl _,.own l=>match b[l]? with
   | some (.dyn e sz c xs)=>.pure (.i .i64 λ_=>(xs ()).length) []
   | _=>.fail
  | .sl _,.eh l sz m k=>match b[l]? with
   | some (.dyn e jb c xs)=>.pure (.i .i64 λ_=>((k () - m ():Nat):Int)) []
   | _=>.fail
  | .map _ _,.mp k c m=>.ex (List k.T) (λks=>ks.Nodup/\∀n,n∈ks↔(m () n).isSome=true) (λks=>.i .i64 λ_=>ks.length) (λ_=>[])
  | .map _ _,.fm l=>match b[l]? with
   | some (.map k c m)=>.ex (List k.T) (λks=>ks.Nodup/\∀n,n∈ks↔(m () n).isSome=true) (λks=>.i .i64 λ_=>ks.length) (λ_=>[])
   | _=>.fail
  | _,_=>.fail
def II (X:Ctx) (t:TypeId) (x:SV):dH :=
 match X.tt t with
 | none=>.fail
 | some i=>match i.d,x with
  | .sl _,.cD=>.pure (.ic .i64 0) []
  | _,_=>.fail
def HH (X:Ctx) (t:TypeId) (x:SV) (j:Nat):dH :=
 match X.tt t,x with
 | some i,.agg cs=>match i.d with
  | .st fs=>match fs[j]? with
   | some (ft,o,_)=>match X.tt ft with
    | some k=>match rQ k cs o with
     | some v=>.pure v []
     | none=>.fail
    | none=>.fail
   | none=>.fail
  | _=>.fail
 | _,_=>.fail
def UT (X:Ctx) (vt:TypeId) (vi:TI):Option (Σ T:Type,T->List SV):=match vi.d with
 | .bool=>some ⟨Unit,λ_=>[.bc true]⟩
 | _=>match X.el vt with
  | some E=>match vi.agg with
   | true=>some ⟨E.T,λt=>[.agg (E.c t)]⟩
   | false=>some ⟨E.T,E.c⟩
  | none=>none
def TI.key (i:TI):Option KD:=match i.d with
 | .int k=>some (.int k)
 | _=>match i.kd with
  | some ks=>some (.ints ks)
  | none=>none
def zJ:List IntKind->List SV->Option (Unit->List Int)
 | [],[]=>some λ_=>[]
 | k :: ks,x :: xs=>match x.ja,zJ ks xs with
  | some (k',n),some f=>if k'=k then some (λ_=>n () :: f ()) else none
  | _,_=>none
 | _,_=>none
def KD.key:(k:KD)->SV->Option (Unit->k.T)
 | .int k,x=>match x.ja with
  | some (k',n)=>if k'=k then some n else none
  | none=>none
 | .ints ks,.agg cs=>zJ ks cs
 | .ints _,_=>none
def EB:Nat->List IntKind->List Int->List SV
 | _,[],_=>[]
 | j,k :: ks,l=>.i k (λ_=>l.getD j 0) :: EB (j+1) ks l
def KD.sv:(k:KD)->k.T->SV
 | .int k,n=>.i k (λ_=>n)
 | .ints ks,l=>.agg (EB 0 ks l)
def DM (X:Ctx) (l:Nat) (t:TypeId):dH :=
 match X.tt t with
 | none=>.fail
 | some i=>match i.d with
  | .map kt vt=>match X.tt kt,X.tt vt with
   | some ki,some vi=>match ki.key,UT X vt vi with
    | some k,some E=>.pure (.fm l) [(l,.map k E.2 λ_ _=>none)]
    | _,_=>.fail
   | _,_=>.fail
  | _=>.fail
def Hx {T:Type} (z:Value) (c:T->List SV) (b:Unit->Bool):Option (Option T)->SV
 | none=>.b b
 | some (some t)=>(c t).headD .any
 | some none=>we z
def Ed {T:Type} (b:Unit->Bool):Option (Option T)->SV
 | none=>.b b
 | some (some _)=>.bc true
 | some none=>.bc false
def VU {T:Type} (z:Value) (c:T->List SV) (r:Option T):Option (Option T)->Prop
 | none=>z=.bool false/\∀t,c t=[.bc true]
 | some o=>r=o
def MM {T K:Type} (z:Value) (c:T->List SV) (m:Unit->K->Option T) (n:Unit->K) (ok:Bool):dH :=
 .ex (Option (Option T)) (λo=>VU z c (m () (n ())) o)
  (λo=>match ok with
   | true=>.bX [Hx z c (λ_=>(m () (n ())).isSome) o,Ed (λ_=>(m () (n ())).isSome) o]
   | false=>Hx z c (λ_=>(m () (n ())).isSome) o) (λ_=>[])
def zb (X:Ctx) (b:List Slot) (t:TypeId) (x ix:SV) (ok:Bool):dH :=
 match X.tt t with
 | none=>.fail
 | some i =>
       match i.d with
  | .map kt vt=>match X.tt kt,X.tt vt with
   | some ki,some vi=>match ki.key with
    | some kk=>match x with
     | .mp k c m=>if k=kk then match k.key ix with
       | some n=>MM vi.zero c m n ok
       | none=>.fail
      else .fail
     | .fm l=>match b[l]? with
      | some (.map k c m)=>if k=kk then match k.key ix with
        | some n=>MM vi.zero c m n ok
        | none=>.fail
       else .fail
      | _=>.fail
     | .v x=>match kk.key ix with
      | some n=>.ex Unit (λ_=>x ()=.map none) (λ_=>match ok with|true=>.bX [we vi.zero,.bc false]|false=>we vi.zero) (λ_=>[])
      | none=>.fail
     | _=>.fail
    | none=>.fail
   | _,_=>.fail
  | _=>.fail
def vr (
        X:Ctx) (b:List Slot) (t:TypeId) (x ix y:SV):dH :=
 match X.tt t with
 | none=>.fail
 | some i =>
       match i.d with
  | .map kt vt=>match X.tt kt with
   | some ki=>match ki.key with
    | some kk=>match x with
     | .fm l=>match b[l]? with
      | some (@Slot.map T k c m)=>if k=kk then match k.key ix with
        | some n=>.ex T (λt=>cH [y] (c t)) (λ_=>.any) (λt=>[(l,.map k c λ_=>k.iw (m ()) (n ()) t)])
        | none=>.fail
       else .fail
      | _=>.fail
     | _=>.fail
    | none=>.fail
   | none=>.fail
  | _=>.fail
def zi (b:List Slot) (x:SV):dH :=
 match x with
 | .ptr l 0=>match b[l]? with
  | some (.iter k c m seen (some (n,t)))=>.pure (.bX (k.sv n :: c t)) []
  | _=>.fail
 | _=>.fail
def Ee (X:Ctx) (l:Nat) (t:TypeId) (x:SV):dH :=
 match X.tt t with
 | none=>.fail
 | some i=>match i.d,x with
  | .map _ _,.mp k c m=>.pure (.ptr l 0) [(l,.iter k c m (λ_=>[]) none)]
  | _,_=>.fail
def SV.gR:SV->Bool
 | .ptr ..|.fq ..|.own _|.eh ..|.fm _|.fE _=>true
 | .agg cs=>cs.any λ|.ptr ..|.fq ..|.own _|.eh ..|.fm _|.fE _=>true|.fn ..|.kV ..|.agg _|.bX _|.cZ ..|.dF ..=>true|_=>false
 | .bX _|.fn ..|.kV ..|.cZ ..|.dF ..=>true
 | _=>false
mutual
def SV.lb:SV->Bool
 | .ptr ..|.fq ..|.own _|.eh ..|.fm _|.fE _=>true
 | .fn _ xs ys=>pe xs||pe ys
 | .agg cs=>pe cs
 | .bX cs=>pe cs
 | .dF cs _=>pe cs
 | .cZ cs _=>pe cs
 | _=>false
def pe:List SV->Bool
 | []=>false
 | x :: r=>x.lb||pe r
end
mutual
def iV:SV->SV
 | .ptr ..|.fq ..|.own _|.eh ..|.fm _|.fE _=>.cell
 | .agg cs=>.agg (uv cs)
 | .bX cs=>.bX (uv cs)
 | .fn f xs ys=>.fn f (uv xs) (uv ys)
 | x=>x
def uv:List SV->List SV
 | []=>[]
 | x :: r=>iV x :: uv r
end
def BJ (X:Ctx) (b:List Slot) (f:FuncId) (args:List SV):dH :=
 match X.sp f with
 | none=>.fail
 | some S=>if args.any SV.gR then
   .ex S.α (λa=>(cH (args.map (view b)) (S.args a)/\((S.res a).scalar||(S.fr||!pe args))=true\/cH (uv args) (S.args a))/\S.pre a) S.res (λ_=>[])
  else .ex S.α (λa=>cH args (S.args a)/\S.pre a) S.res (λ_=>[])
def xf (X:Ctx) (b:List Slot) (l:Nat) (bi:Builtin) (ts:List TypeId) (xs:List SV):dH :=
 match bi with
 | .len=>match ts,xs with
  | [t],[x]=>zI X b t x
  | _,_=>.fail
 | .append=>match ts,xs with
  | [t,t'],[x,y]=>if t=t' then vE X b l t x y else vB X b l t t' x y
  | _,_=>.fail
 | .copy=>match ts,xs with
  | [t,t'],[x,y]=>if t=t' then xG X b t x y else .fail
  | _,_=>.fail
 | .clear=>match ts,xs with
  | [t],[x]=>xz X b t x
  | _,_=>.fail
 | .min=>match xs with
  | [x,y]=>Cp min x y
  | [x,y,z]=>BR min x y z
  | _=>.fail
 | .max=>match xs with
  | [x,y]=>Cp max x y
  | [x,y,z]=>BR max x y z
  | _=>.fail
 | .cap=>match ts,xs with
  | [t],[x]=>II X t x
  | _,_=>.fail
 | _=>.fail
def dE (X:Ctx) (s:St) (l:Nat):Op->dH
 | .move x|.assign x=>.pure (ev s x) []
 | .pick c a b=>H8 (ev s c) (ev s a) (ev s b)
 | .alloc e=>match X.tt e with
  | some i=>.pure (.ptr l 0) [(l,.fix e (i.zero.cells.toList.map jz))]
  | none=>.fail
 | .box e x=>match X.tt e,(ev s x).cells? with
  | some i,some cs=>.pure (.ptr l 0) [(l,.fix e cs)]
  | _,_=>.fail
 | .build t parts=>HG X t (parts.toList.map λp=>(p.1,ev s p.2))
 | .buildSlice t n parts=>Dd X l t n (parts.toList.map λp=>(p.1,ev s p.2))
 | .load t x=>zr X s.b t (ev s x)
 | .store t x y=>xy X s.b t (ev s x) (ev s y)
 | .nilCheck x=>match ev s x with
  | .ptr l off=>.pure (.ptr l off) []
  | .cZ cs off=>.pure (.cZ cs off) []
  | .fn (.func f) fs cs=>.pure (.fn (.func f) fs cs) []
  | _=>.fail
 | .binOp op t x y _=>IH X op t (ev s x) (ev s y)
 | .unOp op _ x=>Jl op (ev s x)
 | .convert src dst x=>H9 X src dst (ev s x)
 | .makeFunc fn first cap=>.pure (.fn fn (first.toList.map (ev s)) (cap.toList.map (ev s))) []
 | .makeSlice t n m=>Dh X l t (ev s n) (ev s m)
 | .slice t x lo hi mx=>xA X s.b l t (ev s x) (lo.map (ev s)) (hi.map (ev s)) (mx.map (ev s))
 | .fieldAddr t x j=>Dg X t (ev s x) j
 | .field t x j=>HH X t (ev s x) j
 | .indexAddr t x i=>wW X s.b t (ev s x) (ev s i)
 | .index t x i=>HF X t (ev s x) (ev s i)
 | .extract x j=>match ev s x with
  | .bX cs=>match cs[j]? with
   | some v=>.pure v []
   | none=>.fail
  | _=>.fail
 | .makeMap t r=>match r with
  | none=>DM X l t
  | some _=>.fail
 | .lookup t x i ok=>zb X s.b t (ev s x) (ev s i) ok
 | .mapUpdate t x i y=>vr X s.b t (ev s x) (ev s i) (ev s y)
 | .insert t x i y=>vr X s.b t (ev s x) (ev s i) (ev s y)
 | .range t x=>Ee X l t (ev s x)
 | .entry x=>zi s.b (ev s x)
 | .call c=>match c.callee with
  | .value g=>match ev s g with
   | .fn (.func f) first cap=>BJ X s.b f (first++c.args.toList.map (ev s)++cap)
   | _=>.fail
  | .builtin bi=>xf X s.b l bi c.argTypes.toList (c.args.toList.map (ev s))
  | _=>.fail
 | _=>.fail
def pO:Op->Bool
 | .store ..|.mapUpdate ..|.insert ..=>true
 | _=>false
def fh:Op->Bool
 | .alloc _|.box ..|.buildSlice ..|.makeSlice ..|.makeMap ..|.range ..=>true
 | .slice _ _ _ _ (some _)=>true
 | .call { callee:=.builtin .append,.. }=>true
 | _=>false
def eF (P:Program) (f:Fr) (s:St) (o:Oper) (a:Act) (w:World) (R:SV->List (Nat × Slot)->Prop):Prop :=
 ∃x u,R x u/\∀(K:Act->World->Prop) (Q:Exit->Act->World->Prop),
  (∀η' H' w' v,Den f (s.iw o.dst x u) η' H' (a.put o.dst v) w'->K (a.put o.dst v) w')->o.wp P a w K Q
section
variable {P:Program} {X:Ctx} {f:Fr} {s:St} {η:Nat->Value} {H:aV} {a:Act} {w:World} {o:Oper} {R:SV->List (Nat × Slot)->Prop}
theorem vC (D:Den f s η H a w) {x:SV} {v:Value} {w':World} (hr:(execOp a.eval o).run P w=.ok (.value v) w') (g:w.grownBy w' none)
  (hx:rel η (aP s.b) H x v) (h:R x []):eF P f s o a w R :=
 ⟨x,[],h,λK Q hk=>by
  unfold Oper.wp
  rw [hr]
  exact hk η H w' v ((D.grown g).put o.dst hx)⟩
theorem dC (D:Den f s η H a w) {x:SV} {v:Value} (hr:∀w,(execOp a.eval o).run P w=.ok (.value v) w)
 (hx:rel η (aP s.b) H x v) (h:R x []):eF P f s o a w R:=vC D (hr w) (ow w none) hx h
theorem Den.zc (D:Den f s η H a w) (t:Nat):rel η (aP s.b) H ((s.t[t]?).getD .any) (a.tmps.getD t undef):=by
 cases h:s.t[t]? with
 | none=>simp [rel]
 | some x =>
  obtain ⟨u,h1,h2⟩:=rG D.t t x h
  have h3:a.tmps[t]?=some u:=by simpa using h1
  rw [DJ,h3]
  exact h2
theorem L3 (η:Nat->Value) (q:Nat->Live) (H:aV) (v:Value):rel η q H (jz v) v:=by
 unfold jz
 split<;>simp [rel]
theorem wZ (η:Nat->Value) (q:Nat->Live) (H:aV):∀(vs:List Value),aK η q H (vs.map jz) vs
 | []=>by simp [aK]
 | v :: r=>by simp only [il,aK];exact ⟨v,r,rfl,L3 η q H v,wZ η q H r⟩
theorem Hy (η:Nat->Value) (q:Nat->Live) (H:aV) (v:Value):rel η q H (we v) v:=by
 unfold we
 split
 ·rename_i cs
  simp only [rel]
  exact ⟨cs.toList,by simp,wZ η q H _⟩
 ·exact L3 η q H v
theorem Den.ev (D:Den f s η H a w) (x:Operand):rel η (aP s.b) H (ev s x) (a.eval x):=by
 cases x with
 | tmp t=>exact D.zc t
 | const v=>exact Hy η _ H v
 | global g=>simp [Vc.ev,Act.eval,rel]
 | func g=>simp only [Vc.ev,Act.eval,rel];exact ⟨[],[],by simp,by simp [aK],by simp [aK]⟩
theorem Den.Ac (D:Den f s η H a w):∀xs:List Operand,aK η (aP s.b) H (xs.map (Vc.ev s)) (xs.map a.eval)
 | []=>by simp [aK]
 | x :: r=>by simp only [il,aK];exact ⟨_,_,rfl,D.ev x,D.Ac r⟩
theorem aaN {v:Value} (h:v.oneCell'=true):v.cells=#[v]:=by
 cases v<;>first|rfl|simp [Value.oneCell'] at h
theorem Br {q:Nat->Live}:∀{xs:List SV} {vs:List Value},xs.all SV.one=true->aK η q H xs vs->∀v∈vs,v.oneCell'=true
 | [],vs,_,h,v,hv=>by simp only [aK] at h;subst h;simp at hv
 | x :: r,vs,ho,h,v,hv=>by
  simp only [aK] at h
  obtain ⟨u,us,rfl,h1,h2⟩:=h
  simp only [yS,cf] at ho
  rcases cj.1 hv with rfl|hv
  ·exact vG ho.1 h1
  ·exact Br ho.2 h2 v hv
theorem L4 {q:Nat->Live} {x:SV} {v:Value} {ys:List SV} (hc:x.cells?=some ys) (h:rel η q H x v) :
  aK η q H ys v.cells.toList/\∀u∈v.cells.toList,u.oneCell'=true:=by
 unfold SV.cells? at hc
 split at hc
 ·rename_i cs
  split at hc
  ·rename_i ho
   simp at hc;subst hc
   simp only [rel] at h
   obtain ⟨vs,rfl,h2⟩:=h
   simp only [Value.cells]
   exact ⟨h2,Br ho h2⟩
  ·cases hc
 ·split at hc
  ·rename_i ho
   simp at hc;subst hc
   have h1:=vG ho h
   rw [aaN h1]
   refine ⟨by simp only [aK];exact ⟨v,[],rfl,h,rfl⟩,λu hu=>by simp at hu;subst hu;exact h1⟩
  ·cases hc
theorem HI {q:Nat->Live} {x:SV} {v:Value} {y:Unit->Bool} (hc:x.Cn=some y) (h:rel η q H x v):v=.bool (y ()):=by
 cases x<;>simp [SV.Cn] at hc<;>subst hc<;>simpa [rel] using h
theorem lg {q:Nat->Live} {x:SV} {v:Value} {k:IntKind} {y:Unit->Int} (hc:x.ja=some (k,y)) (h:rel η q H x v):v=.int k (y ()):=by
 cases x<;>simp [SV.ja] at hc<;>obtain ⟨rfl,rfl⟩:=hc<;>simpa [rel] using h
theorem UU (D:Den f s η H a w) (x:Operand) (ho:o.op=.move x\/o.op=.assign x) (h:R (Vc.ev s x) []):eF P f s o a w R :=
 dC D (v:=a.eval x) (λw=>by rcases ho with ho|ho<;>simp [execOp,ho]) (D.ev x) h
theorem afb (D:Den f s η H a w) (c x y:Operand) (ho:o.op=.pick c x y) (h:(H8 (Vc.ev s c) (Vc.ev s x) (Vc.ev s y)).K R):eF P f s o a w R:=by
 have hc:=D.ev c
 have hx:=D.ev x
 have hy:=D.ev y
 unfold H8 at h
 split at h
 ·rename_i e;rw [e] at hc;simp only [rel] at hc
  exact dC D (v:=a.eval x) (λw=>by simp [execOp,ho,hc,asBool]) hx h
 ·rename_i e;rw [e] at hc;simp only [rel] at hc
  exact dC D (v:=a.eval y) (λw=>by simp [execOp,ho,hc,asBool]) hy h
 ·rename_i z e;rw [e] at hc;simp only [rel] at hc
  split at h
  ·rename_i f g hf hg
   have h1:=HI hf hx
   have h2:=HI hg hy
   refine dC D (v:=if z () then a.eval x else a.eval y) (λw=>by simp [execOp,ho,hc,asBool]) ?_ h
   simp only [rel]
   rw [h1,h2]
   split<;>rfl
  ·exact h.elim
 ·exact h.elim
theorem RB {op:BinOp} {k:IntKind} {x y:Int} {v:Value} (h:∀w,(match op with
  | .add|.sub|.mul=>Op.intArith op k x y
  | .quo|.rem=>Op.intDiv op k x y
  | .and|.or|.xor|.andNot=>Op.intBits op k x y
  | _=>Op.intCmp op x y:Sem Value).run P w=.ok v w) (hs:za op=false) (t:TypeId) (X Y:Operand) (w:World) :
  (do eqGuard op t X Y (.int k x) (.int k y);binOp op t (.int k x) (.int k y):Sem Value).run P w=.ok v w:=by
 have:=h w
 cases op<;>simp [za] at hs<;>simp_all [eqGuard,binOp]
theorem acU (D:Den f s η H a w) (op:BinOp) (t t':TypeId) (x y:Operand) (ho:o.op=.binOp op t x y t') {k:IntKind} {m n:Unit->Int}
  (hs:za op=false) (hx:(Vc.ev s x).ja=some (k,m)) (hy:(Vc.ev s y).ja=some (k,n)) (h:(xx op k m n).K R):eF P f s o a w R:=by
 have h1:=lg hx (D.ev x)
 have h2:=lg hy (D.ev y)
 have main:∀v X,(∀w,(match op with
  | .add|.sub|.mul=>Op.intArith op k (m ()) (n ())
  | .quo|.rem=>Op.intDiv op k (m ()) (n ())
  | .and|.or|.xor|.andNot=>Op.intBits op k (m ()) (n ())
  | _=>Op.intCmp op (m ()) (n ()):Sem Value).run P w=.ok v w)->rel η (aP s.b) H X v->R X []->eF P f s o a w R:=by
  intro v X hv hX hR
  refine dC D (v:=v) (λw=>?_) hX hR
  have:=RB hv hs t x y w
  simp only [execOp,ho,h1,h2,Sem.run_bind,this,Result.andThen_ok,Sem.run_pure]
 unfold xx at h
 cases op<;>simp only [dH.K] at h<;>simp only [za] at hs
 case add=>exact main (.int k _) _ (λw=>rfl) (by simp only [rel]) h
 case sub=>exact main (.int k _) _ (λw=>rfl) (by simp only [rel]) h
 case mul=>exact main (.int k _) _ (λw=>rfl) (by simp only [rel]) h
 case quo=>obtain ⟨⟨h0⟩,h⟩:=h;exact main (.int k _) _ (λw=>by simp only [Op.intDiv,h0,if_false];rfl) (by simp only [rel]) h
 case rem=>obtain ⟨⟨h0⟩,h⟩:=h;exact main (.int k _) _ (λw=>by simp only [Op.intDiv,h0,if_false];rfl) (by simp only [rel]) h
 case and=>exact main (.int k _) _ (λw=>rfl) (by simp only [rel,fC]) h
 case or=>exact main (.int k _) _ (λw=>rfl) (by simp only [rel,fC]) h
 case xor=>exact main (.int k _) _ (λw=>rfl) (by simp only [rel,fC]) h
 case andNot=>exact main (.int k _) _ (λw=>rfl) (by simp only [rel,fC]) h
 case eql=>exact main (.bool _) _ (λw=>rfl) (by simp only [rel,gA]) h
 case neq=>exact main (.bool _) _ (λw=>rfl) (by simp only [rel,gA,bne]) h
 case lss=>exact main (.bool _) _ (λw=>rfl) (by simp only [rel,fj]) h
 case leq=>exact main (.bool _) _ (λw=>rfl) (by simp only [rel,jB]) h
 case gtr=>exact main (.bool _) _ (λw=>rfl) (by simp only [rel,fj]) h
 case geq=>exact main (.bool _) _ (λw=>rfl) (by simp only [rel,jB]) h
 all_goals first|exact h.elim|cases hs
theorem acV {op:BinOp} {k:IntKind} {m n:Int} (h:(By op k m n).K R) :
  ∃X,R X []/\za op=false/\∀(v:Value) (η:Nat->Value) (q:Nat->Live) (H:aV) (Y:SV),
   (xx op k (λ_=>m) (λ_=>n))=.pure Y []->rel η q H Y v->rel η q H X v:=by
 cases op<;>simp only [By,dH.K] at h
 case add|sub|mul|eql|neq|lss|leq|gtr|geq =>
  refine ⟨_,h,rfl,λv η q H Y hY hr=>?_⟩
  simp only [xx,dH.pure.injEq,and_true] at hY
  subst hY
  simpa only [rel] using hr
 all_goals exact h.elim
theorem ahQ (D:Den f s η H a w) (op:UnOp) (t:TypeId) (x:Operand) (ho:o.op=.unOp op t x) (h:(Jl op (Vc.ev s x)).K R):eF P f s o a w R:=by
 have hx:=D.ev x
 unfold Jl at h
 split at h<;>first|exact h.elim|skip
 all_goals
  rename_i e
  rw [e] at hx
  simp only [rel] at hx
 case h_3 =>
  rename_i d p _
  obtain ⟨c,hc,hp⟩:=hx
  refine dC D (v:=.bool (!c)) (λw=>by simp [execOp,ho,hc,Op.unary]) (by simp only [rel];exact ⟨!c,rfl,λe=>hp (by cases c<;>cases d<;>simp_all)⟩) h
 case h_6 =>
  split at h<;>first|exact h.elim|skip
  rename_i hs
  exact dC D (v:=.int _ _) (λw=>by simp only [execOp,ho,hx,Op.unary,hs,if_true];rfl) (by simp only [rel,fC]) h
 all_goals
  refine dC D (v:=_) (λw=>by simp [execOp,ho,hx,Op.unary,Op.intArith];rfl) (by simp [rel]) h
theorem afc (C:X.Ok P) (D:Den f s η H a w) (src dst:TypeId) (x:Operand) (ho:o.op=.convert src dst x) (h:(H9 X src dst (Vc.ev s x)).K R):eF P f s o a w R:=by
 have hx:=D.ev x
 unfold H9 at h
 split at h
 ·rename_i i j hi hj
  have Ii:=C.tt _ _ hi
  have Ij:=C.tt _ _ hj
  have OH:∃d,P.underlying src=some d:=by
   have:=Ii.desc
   split at this
   all_goals first
    | exact ⟨_,this⟩
    | (obtain ⟨d,h,_⟩:=this;exact ⟨_,h⟩)
  obtain ⟨d,hd⟩:=OH
  have wg:=Ij.desc
  split at h<;>first|exact h.elim|skip
  ·rename_i k k' n e1 e2
   rw [e1] at wg;rw [e2] at hx
   simp only [rel] at hx
   refine dC D (v:=.int k (k.wrap n)) (λw=>by simp [execOp,ho,hx,convert,run_underlying hd,run_underlying wg,Conv.intToInt]) (by simp [rel]) h
  ·rename_i k k' n e1 e2
   rw [e1] at wg;rw [e2] at hx
   simp only [rel] at hx
   refine dC D (v:=.int k (k.wrap (n ()))) (λw=>by simp [execOp,ho,hx,convert,run_underlying hd,run_underlying wg,Conv.intToInt]) (by simp [rel]) h
  ·rename_i y e1 e2
   rw [e1] at wg;rw [e2] at hx
   simp only [rel] at hx
   refine dC D (v:=.string (y ())) (λw=>by simp [execOp,ho,hx,convert,run_underlying hd,run_underlying wg]) (by simp [rel]) h
 ·exact h.elim
end
end Go.Vc
