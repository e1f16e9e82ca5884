import Derived.Test.YthnhbemmlfaihaaR0
set_option linter.unusedVariables false
set_option linter.unusedSimpArgs false
set_option maxRecDepth 10000
set_option maxHeartbeats 64000000
namespace Go.Vc
open Go
structure wx (p:Unit->Prop):Prop where
 out:p ()
structure wE (x:Unit->Bool):Prop where
 out:x ()=true
structure wF (x:Unit->Bool):Prop where
 out:x ()=false
structure Hyp (p:Unit->Prop):Prop where
 out:p ()
section
variable {η:Nat->Value} {H:aV}
theorem ag9 {x:Unit->Value} (ho:(SV.v x).one=true):(x ()).oneCell'=true:=by
 unfold SV.one at ho
 simp only at ho
 split at ho<;>first|(rename_i e;rw [e];rfl)|cases ho
theorem v7 {q:Nat->Live} {x:SV} {v:Value} (ho:x.one=true) (h:rel η q H x v):v.oneCell'=true:=by
 cases x<;>first|(have hv:=ag9 ho;simp only [rel] at h;rw [h];exact hv)|skip
 all_goals (simp [SV.one] at ho)<;>simp only [rel] at h
 case bc=>subst h;rfl
 case b=>subst h;rfl
 case nb=>obtain ⟨c,rfl,_⟩:=h;rfl
 case ic=>subst h;rfl
 case i=>subst h;rfl
 case str=>subst h;rfl
 case cell=>exact h
 case cH=>subst h;rfl
 case ptr l off =>
  split at h
  ·exact h.elim
  ·obtain ⟨x,rfl⟩:=h;rfl
  ·obtain ⟨bl,_,rfl⟩:=h;rfl
 case fq l sz i off =>
  split at h
  ·exact h.elim
  ·obtain ⟨x,rfl⟩:=h;rfl
  ·obtain ⟨bl,n,c,_,rfl⟩:=h;rfl
 case own l =>
  split at h
  ·exact h.elim
  ·obtain ⟨x,n,c,rfl⟩:=h;rfl
  ·obtain ⟨_,x,n,c,rfl⟩:=h;rfl
 case et l sz m n =>
  split at h
  ·exact h.elim
  ·obtain ⟨x,n,c,rfl⟩:=h;rfl
  ·obtain ⟨x,n,c,rfl⟩:=h.isSlice;rfl
 case dO=>obtain ⟨ad,rfl,_⟩:=h;rfl
 case sl=>obtain ⟨⟨ad,cap,rfl,_⟩,_⟩:=h;rfl
 case dg=>obtain ⟨ad,rfl,_⟩:=h;rfl
 case fn=>obtain ⟨fs,cs,rfl,_⟩:=h;rfl
 case lu=>obtain ⟨y,rfl,_⟩:=h;rfl
 case fA=>obtain ⟨⟨ad,rfl,_⟩,_⟩:=h;rfl
 case mp=>rcases h.1 with ⟨rfl,_⟩|⟨_,_,_,rfl,_⟩<;>rfl
 case fy l =>
  split at h
  ·exact h.elim
  ·obtain ⟨x,rfl⟩:=h;rfl
  ·obtain ⟨_,x,rfl⟩:=h;rfl
 case fK l =>
  split at h
  ·exact h.elim
  ·obtain ⟨x,rfl⟩:=h;rfl
  ·obtain ⟨bl,_,rfl⟩:=h;rfl
end
mutual
inductive Le:SV->SV->Prop
 | refl (x:SV):Le x x
 | any (x:SV):Le x .any
 | cell {x:SV}:x.one=true->Le x .cell
 | b {x y:Unit->Bool}:x ()=y ()->Le (.b x) (.b y)
 | bc {c:Bool} {y:Unit->Bool}:c=y ()->Le (.bc c) (.b y)
 | Fg {x:Unit->Bool} {c:Bool}:x ()=c->Le (.b x) (.bc c)
 | i {k:IntKind} {x y:Unit->Int}:x ()=y ()->Le (.i k x) (.i k y)
 | ic {k:IntKind} {n:Int} {y:Unit->Int}:n=y ()->Le (.ic k n) (.i k y)
 | aiu {k:IntKind} {x:Unit->Int} {n:Int}:x ()=n->Le (.i k x) (.ic k n)
 | str {x y:Unit->ByteArray}:x ()=y ()->Le (.str x) (.str y)
 | v {x y:Unit->Value}:x ()=y ()->Le (.v x) (.v y)
 | agg {cs ds:List SV}:cM cs ds->Le (.agg cs) (.agg ds)
 | opt {T:Type} {p:T->Prop} {y:SV} {x:T->SV} (t:T):p t->(∀t,LF (x t))->Le y (x t)->Le y (.opt p x)
 | ca {cs ds:List SV}:cM cs ds->Le (.ca cs) (.ca ds)
 | sl {T:Type} {sz:Nat} {c:T->List SV} {xs ys:Unit->List T}:xs ()=ys ()->Le (.sl sz c xs) (.sl sz c ys)
 | slm {T T':Type} {sz:Nat} {c:T->List SV} {c':T'->List SV} {xs:Unit->List T} {ys:Unit->List T'}:(xs ()).length=(ys ()).length->(∀x,bX (c' x)) ->
  (∀(j:Nat) (x:T) (y:T'),(xs ())[j]?=some x->(ys ())[j]?=some y->cM (c x) (c' y))->Le (.sl sz c xs) (.sl sz c' ys)
 | cH {T:Type} {sz:Nat} {c:T->List SV} {ys:Unit->List T}:ys ()=[]->(∀x,bX (c x))->Le .cH (.sl sz c ys)
 | dO {T:Type} {cs:List SV} {n sz:Nat} {c:T->List SV} {ys:Unit->List T}:(ys ()).length=n->(∀y∈ys (),(c y).length=sz)->(∀x,bX (c x)) ->
  cM cs ((ys ()).flatMap c)->Le (.dO cs n) (.sl sz c ys)
 | dg {cs ds:List SV} {off:Nat}:cM cs ds->Le (.dg cs off) (.dg ds off)
 | fq {l sz:Nat} {i j:Unit->Nat} {off:Nat}:i ()=j ()->Le (.fq l sz i off) (.fq l sz j off)
 | et {l sz:Nat} {m n m' n':Unit->Nat}:m ()=m' ()->n ()=n' ()->Le (.et l sz m n) (.et l sz m' n')
 | mp {T:Type} {k:KD} {c:T->List SV} {m m':Unit->k.T->Option T}:m ()=m' ()->Le (.mp k c m) (.mp k c m')
 | fA {T:Type} {sz:Nat} {c:T->List SV} {xs ys:Unit->List T}:xs ()=ys ()->Le (.fA sz c xs) (.fA sz c ys)
 | oq {T:Type} {sz:Nat} {c:T->List SV} {xs ys:Unit->List T}:xs ()=ys ()->Le (.fA sz c xs) (.sl sz c ys)
 | aiv {T:Type} {k:KD} {c:T->List SV} {x:Unit->Value} {m:Unit->k.T->Option T}:x ()=.map none->(∀n,m () n=none)->(∀x,bX (c x))->Le (.v x) (.mp k c m)
 | fn {f:Fn} {cs ds wG YG:List SV}:cM cs ds->cM wG YG->Le (.fn f cs wG) (.fn f ds YG)
inductive cM:List SV->List SV->Prop
 | nil:cM [] []
 | cons {x y:SV} {xs ys:List SV}:Le x y->cM xs ys->cM (x :: xs) (y :: ys)
end
theorem Bw {η:Nat->Value} {q:Nat->Live} {H:aV} {s s':List SV} {v:List Value} (h:aK η q H (s++s') v) :
  aK η q H s (v.take s.length)/\aK η q H s' (v.drop s.length):=by
 have h1:=BF h s.length
 have h2:=BE h s.length
 simp only [BB,List.drop_left] at h1 h2
 exact ⟨h1,h2⟩
theorem xo {η:Nat->Value} {q:Nat->Live} {H:aV} {T:Type} {c:T->List SV} {sz:Nat} :
  ∀{xs:List T} {v:List Value},(∀x∈xs,(c x).length=sz)->aK η q H (xs.flatMap c) v->∀(j:Nat) (x:T),xs[j]?=some x ->
   aK η q H (c x) ((v.drop (j*sz)).take sz)
 | [],v,_,_,j,x,hx=>by simp at hx
 | y :: r,v,hl,h,j,x,hx=>by
  have hy:(c y).length=sz:=hl y (by simp)
  rw [oM] at h
  obtain ⟨h1,h2⟩:=Bw h
  rw [hy] at h1 h2
  cases j with
  | zero=>simp at hx;subst hx;simpa using h1
  | succ j =>
   have:=xo (λx hx=>hl x (by simp [hx])) h2 j x (by simpa using hx)
   rw [List.drop_drop] at this
   rw [show (j+1)*sz=sz+j*sz by rw [Nat.add_mul];omega]
   exact this
mutual
theorem r9 {η:Nat->Value} {q:Nat->Live} {H:aV}:∀{x y:SV},Le x y->∀{v:Value},rel η q H x v->rel η q H y v
 | _,_,.refl _,_,h=>h
 | _,_,.any _,_,_=>by simp [rel]
 | _,_,.cell h1,_,h=>by simp only [rel];exact v7 h1 h
 | _,_,.b e,_,h=>by simp only [rel] at h ⊢;rw [<-e];exact h
 | _,_,.bc e,_,h=>by simp only [rel] at h ⊢;rw [<-e];exact h
 | _,_,.Fg e,_,h=>by simp only [rel] at h ⊢;rw [<-e];exact h
 | _,_,.i e,_,h=>by simp only [rel] at h ⊢;rw [<-e];exact h
 | _,_,.ic e,_,h=>by simp only [rel] at h ⊢;rw [<-e];exact h
 | _,_,.aiu e,_,h=>by simp only [rel] at h ⊢;rw [<-e];exact h
 | _,_,.str e,_,h=>by simp only [rel] at h ⊢;rw [<-e];exact h
 | _,_,.v e,_,h=>by simp only [rel] at h ⊢;rw [<-e];exact h
 | _,_,.agg e,_,h=>by
  simp only [rel] at h ⊢
  obtain ⟨vs,h1,h2⟩:=h
  exact ⟨vs,h1,iw e h2⟩
 | _,_,.opt t ht bY e,_,h=>by
  simp only [rel]
  exact ⟨⟨t,ht,r9 e h⟩,bY⟩
 | _,_,.ca e,_,h=>by
  simp only [rel] at h ⊢
  obtain ⟨vs,h1,h2⟩:=h
  exact ⟨vs,h1,iw e h2⟩
 | _,_,.sl e,_,h=>by simp only [rel] at h ⊢;rw [<-e];exact h
 | _,_,@Le.slm T T' sz c c' xs ys e1 bY e2,_,h=>by
  simp only [rel] at h ⊢
  obtain ⟨⟨ad,cap,h1,h0,h2⟩,_⟩:=h
  refine ⟨⟨ad,cap,by rw [<-e1];exact h1,by omega,?_⟩,bY⟩
  rcases h2 with h2|⟨a,h3,h4,h5⟩
  ·left;exact gI (by rw [<-e1,h2];rfl)
  ·right
   refine ⟨a,h3,h4,λj y hy=>?_⟩
   have hj:j < (xs ()).length:=by rw [e1];exact (bh.1 hy).1
   obtain ⟨vals,g1,g2,g3⟩:=h5 j _ (dE hj)
   exact ⟨vals,g1,iw (e2 j _ y (dE hj) hy) g2,g3⟩
 | _,_,.cH e bY,_,h=>by simp only [rel] at h ⊢;rw [e];exact ⟨⟨none,0,h,by simp,.inl rfl⟩,bY⟩
 | _,_,@Le.dO T cs n sz c ys e1 e2 bY e3,_,h=>by
  simp only [rel] at h ⊢
  obtain ⟨ad,h1,h2⟩:=h
  refine ⟨⟨ad,n,by rw [e1];exact h1,by omega,?_⟩,bY⟩
  rcases h2 with h2|⟨a,h3,h4,vals,h5,h6⟩
  ·left;exact gI (by omega)
  ·right
   refine ⟨a,h3,h4,λj x hx=>?_⟩
   have h7:=iw e3 h5
   have h8:=xo e2 h7 j x hx
   refine ⟨_,?_,h8,?_⟩
   ·rw [gZ h8];exact e2 x (cN hx)
   ·intro i u hu
    rw [kE] at hu
    split at hu
    ·rw [iZ] at hu
     have:=h6 _ u hu
     rwa [<-Nat.add_assoc] at this
    ·cases hu
 | _,_,.dg e,_,h=>by
  simp only [rel] at h ⊢
  obtain ⟨a,h1,vals,h2,h3⟩:=h
  exact ⟨a,h1,vals,iw e h2,h3⟩
 | _,_,.fq e,_,h=>by simp only [rel] at h ⊢;rw [<-e];exact h
 | _,_,.et e e',_,h=>by simp only [rel] at h ⊢;rw [<-e,<-e'];exact h
 | _,_,.mp e,_,h=>by simp only [rel] at h ⊢;rw [<-e];exact h
 | _,_,.fA e,_,h=>by simp only [rel] at h ⊢;rw [<-e];exact h
 | _,_,.oq e,_,h=>by
  simp only [rel] at h ⊢
  rw [<-e]
  obtain ⟨⟨ad,h1,h2⟩,bY⟩:=h
  exact ⟨⟨ad,_,h1,fT _,h2⟩,bY⟩
 | _,_,.aiv e e' bY,_,h=>by simp only [rel] at h ⊢;exact ⟨.inl ⟨h.trans e,e'⟩,bY⟩
 | _,_,.fn e e',_,h=>by
  simp only [rel] at h ⊢
  obtain ⟨fs,cs,h1,h2,h3⟩:=h
  exact ⟨fs,cs,h1,iw e h2,iw e' h3⟩
theorem iw {η:Nat->Value} {q:Nat->Live} {H:aV}:∀{x y:List SV},cM x y->∀{v:List Value},aK η q H x v->aK η q H y v
 | _,_,.nil,_,h=>h
 | _,_,.cons e r,_,h=>by
  simp only [aK] at h ⊢
  obtain ⟨u,us,h1,h2,h3⟩:=h
  exact ⟨u,us,h1,r9 e h2,iw r h3⟩
end
inductive TD where
 | int (k:IntKind)
 | bool
 | str
 | sl (e:TypeId)
 | ptr (e:TypeId)
 | st (fs:List (TypeId × Nat × Nat))
 | arr (n:Nat) (e:TypeId)
 | map (k v:TypeId)
 | other
structure TI where
 d:TD
 size:Nat
 bytes:Nat
 zero:Value
 flat:Bool:=false
 kd:Option (List IntKind):=none
def TI.agg (i:TI):Bool:=match i.d with|.st _|.arr _ _=>true|_=>false
def x2:Value->Value->Bool
 | .bool a,.bool b=>a == b
 | .int k a,.int k' b=>a == b
 | .string a,.string b=>a == b
 | _,_=>false
def qc:List Value->List Value->Bool
 | a :: as,b :: bs=>x2 a b&&qc as bs
 | _,_=>true
def r8:Value->Value->Bool
 | .bool _,.bool _=>true
 | .int k _,.int k' _=>k == k'
 | .string _,.string _=>true
 | _,_=>false
def n8:List Value->List Value->Bool
 | a :: as,b :: bs=>r8 a b&&n8 as bs
 | [],[]=>true
 | _,_=>false
structure x3 (P:Program) (kt:TypeId) (k:KD):Prop where
 check:∀(n:k.T),k.ok n->∀em w,(Instr.checkKey em 10000 kt (k.enc n)).run P w=.ok () w
 find:∀(n:k.T),k.ok n->∀(es:List MapEntry),(∀e∈es,∃n',k.ok n'/\e.key=k.enc n')->∀w,
  ((Instr.findKey kt (k.enc n) es).run P w=.ok none w/\∀e∈es,e.key≠k.enc n)\/∃j e,(Instr.findKey kt (k.enc n) es).run P w=.ok (some (j,e.val)) w/\es[j]?=some e/\e.key=k.enc n
 stays:∀(n:k.T),k.ok n->∀w,(Instr.keyThatStays (k.enc n) (k.enc n)).run P w=.ok (k.enc n) w
structure k9 (P:Program) (t:TypeId) (i:TI):Prop where
 info:∃inf,P.info? t=some inf/\inf.size=i.size/\inf.bytes=i.bytes/\inf.zero=some i.zero
 wg:i.zero.cells.size=i.size
 pos:0 < i.size
 desc:match i.d with
  | .int k=>P.underlying t=some (.int k)
  | .bool=>P.underlying t=some .bool
  | .str=>P.underlying t=some .string
  | .sl e=>P.underlying t=some (.slice e)
  | .ptr e=>P.underlying t=some (.pointer e)
  | .st gs=>∃fs:Array Field,P.underlying t=some (.struct fs)/\fs.size=gs.length /\
    ∀(j:Nat) (f:Field),fs[j]?=some f->∃inf,P.info? f.type=some inf/\inf.size≠0/\gs[j]?=some (f.type,f.offset,inf.size)
  | .arr n e=>P.underlying t=some (.array n e)
  | .map k v=>P.underlying t=some (.map k v)
  | .other=>∃d,P.underlying t=some d/\(∀x,d≠.struct x)/\(∀n e,d≠.array n e)
 flat:i.flat=true->i.agg=true/\∀(vs us:List Value) (w:World),vs.length=i.size->us.length=i.size ->
  n8 vs us=true->n8 vs i.zero.cells.toList=true->∀op x y,(op=.eql\/op=.neq) ->
  (do eqGuard op t x y (.agg vs.toArray) (.agg us.toArray);binOp op t (.agg vs.toArray) (.agg us.toArray):Sem Value).run P w =
   .ok (.bool (if op=.eql then qc vs us else !qc vs us)) w
 key:∀ks,i.kd=some ks->x3 P t (.ints ks)
structure gL:Type 1 where
 T:Type
 c:T->List SV
 z:T
structure Spec:Type 1 where
 α:Type
 args:α->List SV
 pre:α->Prop
 res:α->SV
 fr:Bool:=false
structure Ctx:Type 1 where
 tt:TypeId->Option TI
 el:TypeId->Option gL
 sp:FuncId->Option Spec
 inl:FuncId->Option Func
 cut:Nat->Bool:=λ_=>false
 lp:FuncId->Bool:=λ_=>false
 io:FuncId->Bool:=λ_=>false
 row:TypeId->Bool:=λ_=>false
 emp:TypeId->Bool:=λ_=>false
def aV.gV (H:aV) (w:World):Prop:=∀b o,H b=some o->w.heap[b]?=some o
structure kJ (P:Program) (f:FuncId) (fn:Func):Prop where
 get:P.funcs[f]?=some fn
 body:fn.body.isSome=true
 name : (fn.name == "runtime.NumGoroutine") = false
structure dw (P:Program) (f:FuncId) (S:Spec):Prop where
 fn:∃fn,kJ P f fn
 lf:∀a,bX (S.args a)
 lr:∀a,LF (S.res a)
 run:∀a,S.pre a->∀(H F:aV) (w:World) (vals:List Value),H.gV w->F.gV w->cQ H (S.args a) vals ->
  Calls P f vals.toArray w λe w'=>∃v H',e=.returned v/\H.le H'/\H'.gV w'/\F.gV w' /\
   (∀b,H' b≠none->H b≠none\/F b=none)/\ox H' (S.res a) v/\w'.os=w.os/\w'.tape=w.tape/\w'.output=w.output
 fresh:S.fr=true->∀a,S.pre a->∀(H F:aV) (w:World) (vals:List Value),H.gV w->F.gV w->cQ H (S.args a) vals ->
  Calls P f vals.toArray w λe w'=>∃v N,e=.returned v/\H.gV w'/\F.gV w'/\aV.gV N w'/\(∀b,N b≠none->H b=none/\F b=none)/\ox N (S.res a) v /\
   w'.os=w.os/\w'.tape=w.tape/\w'.output=w.output
structure Cb (P:Program) (X:Ctx) (t:TypeId) (E:gL):Prop where
 ti:∃i,X.tt t=some i
 len:∀i,X.tt t=some i->∀x,(E.c x).length=i.size
 lf:∀x,bX (E.c x)/\(E.c x).all SV.one=true
 zero:∀i,X.tt t=some i->∀H,cQ H (E.c E.z) i.zero.cells.toList
structure Ctx.Ok (P:Program) (X:Ctx):Prop where
 tt:∀t i,X.tt t=some i->k9 P t i
 el:∀t E,X.el t=some E->Cb P X t E
 sp:∀f S,X.sp f=some S->dw P f S
 inl:∀f fn,X.inl f=some fn->kJ P f fn
 mixed:P.follows .mixedOrders=true
def jG:Value->SV
 | .bool c=>.bc c
 | .int k n=>.ic k n
 | .string s=>.str λ_=>s
 | .slice none 0 0=>.cH
 | v=>.v λ_=>v
def wH:Value->SV
 | .agg cs=>.agg (cs.toList.map jG)
 | v=>jG v
def ev (s:St):Operand->SV
 | .tmp t=>(s.t[t]?).getD .any
 | .const v=>wH v
 | .global g=>.v λ_=>.pointer (some ⟨g,0,none⟩)
 | .func f=>.fn (.func f) [] []
def SV.cells?:SV->Option (List SV)
 | .agg cs=>if cs.all SV.one then some cs else none
 | x=>if x.one then some [x] else none
def SV.CU:SV->Option (Unit->Bool)
 | .bc c=>some λ_=>c
 | .b x=>some x
 | _=>none
def SV.jg:SV->Option (IntKind × (Unit->Int))
 | .ic k n=>some (k,λ_=>n)
 | .i k n=>some (k,n)
 | _=>none
def gU (b:List Slot):Nat->SV->SV
 | 0,x=>x
 | n+1,.own l=>match b[l]? with
  | some (.dyn e sz c xs)=>.sl sz c xs
  | _=>.own l
 | n+1,.et l sz m k=>match b[l]? with
  | some (.dyn e iV c xs)=>(match Nat.beq sz iV with
   | true=>.sl iV c λ_=>((xs ()).take (k ())).drop (m ())
   | false=>.et l sz m k)
  | _=>.et l sz m k
 | n+1,.ptr l off=>match b[l]? with
  | some (.fix e cs)=>.dg (cs.map (gU b n)) off
  | _=>.ptr l off
 | n+1,.fy l=>match b[l]? with
  | some (.map k c m)=>.mp k c m
  | _=>.fy l
 | n+1,.fn f xs ys=>.fn f (xs.map (gU b n)) (ys.map (gU b n))
 | n+1,.agg cs=>.agg (cs.map (gU b n))
 | n+1,.ca cs=>.ca (cs.map (gU b n))
 | n+1,x=>x
def view (b:List Slot):SV->SV:=gU b 4
mutual
def SV.scalar:SV->Bool
 | .bc _|.b _|.ic ..|.i ..|.str _=>true
 | .ca cs=>xR cs
 | .agg cs=>xR cs
 | _=>false
def xR:List SV->Bool
 | []=>true
 | x :: r=>x.scalar&&xR r
end
inductive dR:Type 1 where
 | fail
 | pure (x:SV) (u:List (Nat × Slot))
 | kK (p:Unit->Prop) (x:SV) (u:List (Nat × Slot))
 | ex (T:Type) (p:T->Prop) (x:T->SV) (u:T->List (Nat × Slot))
def dR.K:dR->(SV->List (Nat × Slot)->Prop)->Prop
 | .fail,_=>False
 | .pure x u,k=>k x u
 | .kK p x u,k=>wx p/\k x u
 | .ex T p x u,k=>∃t,wx (λ_=>p t)/\k (x t) (u t)
def kr (b:List Slot):List (Nat × Slot)->List Slot
 | []=>b
 | (l,x) :: r=>kr (b.set l x) r
def St.iz (s:St) (dst:Option Tmp) (x:SV) (u:List (Nat × Slot)):St :=
 { t:=match dst with|some d=>s.t.set d x|none=>s.t,b:=kr s.b u }
def fu (x y:Int):Bool:=decide (x < y)
def jI (x y:Int):Bool:=decide (x<=y)
def gG (x y:Int):Bool:=x == y
def fJ (op:BinOp) (k:IntKind) (x y:Int):Int :=
 k.wrap (match op with
  | .and=>(BitVec.ofInt k.bits x &&& BitVec.ofInt k.bits y).toNat
  | .or=>(BitVec.ofInt k.bits x ||| BitVec.ofInt k.bits y).toNat
  | .xor=>(BitVec.ofInt k.bits x ^^^ BitVec.ofInt k.bits y).toNat
  | _=>(BitVec.ofInt k.bits x &&& ~~~ BitVec.ofInt k.bits y).toNat:Nat)
def Je:SV->SV->Option (Unit->Bool)
 | .bc a,.bc b=>some λ_=>a == b
 | .bc a,.b y=>some λ_=>a == y ()
 | .b x,.bc b=>some λ_=>x () == b
 | .b x,.b y=>some λ_=>x () == y ()
 | .ic k a,.ic k' b=>if k=k' then some λ_=>a == b else none
 | .ic k a,.i k' y=>if k=k' then some λ_=>a == y () else none
 | .i k x,.ic k' b=>if k=k' then some λ_=>x () == b else none
 | .i k x,.i k' y=>if k=k' then some λ_=>x () == y () else none
 | .str x,.str y=>some λ_=>x () == y ()
 | _,_=>none
def x4:List SV->List SV->Option (Unit->Bool)
 | [],[]=>some λ_=>true
 | x :: xs,y :: ys=>match Je x y,x4 xs ys with
  | some f,some g=>some λ_=>f ()&&g ()
  | _,_=>none
 | _,_=>none
def BZ (op:BinOp) (k:IntKind) (a b:Int):dR :=
 match op with
 | .add=>.pure (.ic k (k.wrap (a+b))) []
 | .sub=>.pure (.ic k (k.wrap (a - b))) []
 | .mul=>.pure (.ic k (k.wrap (a*b))) []
 | .eql=>.pure (.bc (gG a b)) []
 | .neq=>.pure (.bc (!gG a b)) []
 | .lss=>.pure (.bc (fu a b)) []
 | .leq=>.pure (.bc (jI a b)) []
 | .gtr=>.pure (.bc (fu b a)) []
 | .geq=>.pure (.bc (jI b a)) []
 | _=>.fail
def xV (op:BinOp) (k:IntKind) (x y:Unit->Int):dR :=
 match op with
 | .add=>.pure (.i k λ_=>k.wrap (x ()+y ())) []
 | .sub=>.pure (.i k λ_=>k.wrap (x () - y ())) []
 | .mul=>.pure (.i k λ_=>k.wrap (x ()*y ())) []
 | .quo=>.kK (λ_=>y ()≠0) (.i k λ_=>k.wrap ((x ()).tdiv (y ()))) []
 | .rem=>.kK (λ_=>y ()≠0) (.i k λ_=>(x ()).tmod (y ())) []
 | .and=>.pure (.i k λ_=>fJ .and k (x ()) (y ())) []
 | .or=>.pure (.i k λ_=>fJ .or k (x ()) (y ())) []
 | .xor=>.pure (.i k λ_=>fJ .xor k (x ()) (y ())) []
 | .andNot=>.pure (.i k λ_=>fJ .andNot k (x ()) (y ())) []
 | .eql=>.pure (.b λ_=>gG (x ()) (y ())) []
 | .neq=>.pure (.b λ_=>!gG (x ()) (y ())) []
 | .lss=>.pure (.b λ_=>fu (x ()) (y ())) []
 | .leq=>.pure (.b λ_=>jI (x ()) (y ())) []
 | .gtr=>.pure (.b λ_=>fu (y ()) (x ())) []
 | .geq=>.pure (.b λ_=>jI (y ()) (x ())) []
 | _=>.fail
def uE (x y:ByteArray):Bool:=Op.bytesLess x.toList y.toList
def uQ (x y:ByteArray):Bool:=x.toList == y.toList
def zD:BinOp->Bool
 | .shl|.shr=>true
 | _=>false
def aeF:BinOp->Bool
 | .add|.sub|.mul|.eql|.neq|.lss|.leq|.gtr|.geq=>true
 | _=>false
def Ni:SV->SV->Option (Unit->Prop)
 | .sl sz c xs,.cH=>some λ_=>xs ()=[]
 | .cH,.sl sz c xs=>some λ_=>xs ()=[]
 | .own _,.cH=>some λ_=>True
 | .cH,.own _=>some λ_=>True
 | _,_=>none
def Nj:SV->SV->Option (Bool × (Unit->Prop))
 | .v a,.v b=>some (true,λ_=>a ()=.map none/\b ()=.map none)
 | .mp k c m,.v b=>some (false,λ_=>b ()=.map none/\∃n,m () n≠none)
 | .v a,.mp k c m=>some (false,λ_=>a ()=.map none/\∃n,m () n≠none)
 | _,_=>none
def Jf (
     X:Ctx) (op:BinOp) (t:TypeId) (x y:SV):dR :=
 match zD op with
 | true=>match x.jg,y.jg with
  | some (k,m),some (_,n) =>
   .kK (λ_=>0<=n ()) (.i k λ_=>match op with
    | .shl=>k.wrap (m ()*2^(min (n ()).toNat k.bits))
    | _=>(m ()).fdiv (2^(min (n ()).toNat k.bits))) []
  | _,_=>.fail
 | false=>match aeF op,x,y with
  | true,.ic k a,.ic k' b=>if k=k' then BZ op k a b else .fail
  | _,x,y=>match x.jg,y.jg with
   | some (k,m),some (k',n)=>if k=k' then xV op k m n else .fail
   | _,_ =>
        match x,y with
    | .str m,.str n=>match op with
     | .add=>.kK (λ_=>(m ()).size+(n ()).size < 9223372036854775808) (.str λ_=>m ()++n ()) []
     | .eql=>.pure (.b λ_=>uQ (m ()) (n ())) []
     | .neq=>.pure (.b λ_=>!uQ (m ()) (n ())) []
     | .lss=>.pure (.b λ_=>uE (m ()) (n ())) []
     | .leq=>.pure (.b λ_=>uE (m ()) (n ())||uQ (m ()) (n ())) []
     | .gtr=>.pure (.b λ_=>!(uE (m ()) (n ())||uQ (m ()) (n ()))) []
     | .geq=>.pure (.b λ_=>!uE (m ()) (n ())) []
     | _=>.fail
    | .agg cs,.agg ds=>match X.tt t with
     | some i=>if i.flat&&cs.length == i.size&&ds.length == i.size then match x4 cs ds,x4 cs (i.zero.cells.toList.map jG) with
       | some f,some _=>match op with
        | .eql=>.pure (.b f) []
        | .neq=>.pure (.b λ_=>!f ()) []
        | _=>.fail
       | _,_=>.fail
      else .fail
     | none=>.fail
    | x,y=>match X.tt t with
     | some i=>match i.d with
      | .bool=>match Je x y,x.CU,y.CU with
       | some f,some _,some _=>match op with
        | .eql=>.pure (.b f) []
        | .neq=>.pure (.b λ_=>!f ()) []
        | _=>.fail
       | _,_,_=>.fail
      | .map _ _=>match Nj x y with
       | some (d,p)=>match op with
        | .eql=>.kK p (.bc d) []
        | .neq=>.kK p (.bc (!d)) []
        | _=>.fail
       | none=>.fail
      | .sl _=>match Ni x y with
       | some p=>match op with
        | .eql=>.pure (.nb true p) []
        | .neq=>.pure (.nb false p) []
        | _=>.fail
       | none=>match x,y,op with
        | .cH,.cH,.eql=>.pure (.bc true) []
        | .cH,.cH,.neq=>.pure (.bc false) []
        | _,_,_=>.fail
      | _=>.fail
     | none=>.fail
def JQ (op:UnOp) (x:SV):dR :=
 match op,x with
 | .not,.bc c=>.pure (.bc (!c)) []
 | .not,.b x=>.pure (.b λ_=>!x ()) []
 | .not,.nb d p=>.pure (.nb (!d) p) []
 | .neg,.ic k n=>.pure (.ic k (k.wrap (0 - n))) []
 | .neg,.i k n=>.pure (.i k λ_=>k.wrap (0 - n ())) []
 | .xor,.i k n=>match k.signed with
  | true=>.pure (.i k λ_=>fJ .xor k (-1) (n ())) []
  | false=>.fail
 | _,_=>.fail
def IM (c a b:SV):dR :=
 match c with
 | .bc true=>.pure a []
 | .bc false=>.pure b []
 | .b x=>match a.CU,b.CU with
  | some f,some g=>.pure (.b λ_=>if x () then f () else g ()) []
  | _,_=>.fail
 | _=>.fail
def IN (X:Ctx) (src dst:TypeId) (x:SV):dR :=
 match X.tt src,X.tt dst with
 | some i,some j=>match j.d,x with
  | .int k,.ic _ n=>.pure (.ic k (k.wrap n)) []
  | .int k,.i _ n=>.pure (.i k λ_=>k.wrap (n ())) []
  | .str,.str x=>.pure (.str x) []
  | _,_=>.fail
 | _,_=>.fail
def qW (i:TI) (cs:List SV) (off:Nat):Option SV :=
 if off+i.size<=cs.length then
  if i.agg then some (.agg ((cs.drop off).take i.size)) else cs[off]?
 else none
def zV (X:Ctx) (b:List Slot) (t:TypeId) (x:SV):dR :=
 match X.tt t with
 | none=>.fail
 | some i=>match x with
  | .ptr l off=>match b[l]? with
   | some (.fix e cs)=>match qW i cs off with
    | some v=>.pure v []
    | none=>.fail
   | _=>.fail
  | .dg cs off=>match qW i cs off with
   | some v=>.pure v []
   | none=>.fail
  | .fq l sz j off=>match b[l]? with
   | some (@Slot.dyn T e iV c xs)=>if sz=iV then
     .ex T (λx=>(xs ())[j ()]?=some x/\(qW i (c x) off).isSome=true) (λx=>(qW i (c x) off).getD .any) (λ_=>[])
    else .fail
   | some (@Slot.e7 T e c xs p ys)=>match ys with
    | [y]=>if sz=1/\off=0/\i.size=1/\i.agg=false then .kK (λ_=>j ()=p ()) y [] else .fail
    | _=>.fail
   | _=>.fail
  | _=>.fail
def putCells:List SV->Nat->List SV->List SV
 | cs,_,[]=>cs
 | cs,o,x :: xs=>putCells (cs.set o x) (o+1) xs
def Wu:SV->Option Nat
 | .own l=>some l
 | _=>none
def xW (
      X:Ctx) (b:List Slot) (t:TypeId) (x y:SV):dR :=
 match X.tt t,y.cells? with
 | some i,some ys=>if ys.length=i.size then match x with
  | .ptr l off=>match b[l]? with
   | some (.fix e cs)=>if off+i.size<=cs.length then .pure .any [(l,.fix e (putCells cs off ys))] else .fail
   | _=>.fail
  | .fq l sz j off=>match b[l]? with
   | some (@Slot.dyn T e iV c xs)=>match Wu y with
    | some l'=>if sz=1/\iV=1/\off=0 then .kK (λ_=>j () < (xs ()).length) .any [(l,.e7 e c xs j [.own l'])] else .fail
    | none=>if sz=iV/\off+i.size<=sz then
     .ex (T × T) (λp=>(xs ())[j ()]?=some p.1/\(c p.2).length=sz/\cM (putCells (c p.1) off ys) (c p.2)) (λ_=>.any)
      (λp=>[(l,.dyn e iV c λ_=>(xs ()).set (j ()) p.2)])
    else .fail
   | _=>.fail
  | _=>.fail
  else .fail
 | _,_=>.fail
def DR (X:Ctx) (t:TypeId) (x:SV) (j:Nat):dR :=
 match X.tt t with
 | some i=>match i.d with
  | .st fs=>match fs[j]? with
   | some (_,o,_)=>match x with
    | .ptr l off=>.pure (.ptr l (off+o)) []
    | .dg cs off=>.pure (.dg cs (off+o)) []
    | .fq l sz k off=>.pure (.fq l sz k (off+o)) []
    | _=>.fail
   | none=>.fail
  | _=>.fail
 | none=>.fail
def xu (X:Ctx) (b:List Slot) (t:TypeId) (x ix:SV):dR :=
 match X.tt t with
 | none=>.fail
 | some i =>
       match i.d with
  | .arr n e=>match X.tt e,ix with
   | some j,.ic k m=>if 0<=m/\m.toNat < n then match x with
    | .ptr l off=>.pure (.ptr l (off+m.toNat*j.size)) []
    | .dg cs off=>.pure (.dg cs (off+m.toNat*j.size)) []
    | .fq l sz p off=>.pure (.fq l sz p (off+m.toNat*j.size)) []
    | _=>.fail
    else .fail
   | some j,.i k m=>(match x with
    | .ptr l off=>.ex Nat (λg=>m ()=(g:Int)/\g < n) (λg=>.ptr l (off+g*j.size)) (λ_=>[])
    | .dg cs off=>.ex Nat (λg=>m ()=(g:Int)/\g < n) (λg=>.dg cs (off+g*j.size)) (λ_=>[])
    | .fq l sz p off=>.ex Nat (λg=>m ()=(g:Int)/\g < n) (λg=>.fq l sz p (off+g*j.size)) (λ_=>[])
    | _=>.fail)
   | _,_=>.fail
  | .sl e=>match X.tt e,ix.jg with
   | some j,some (k,m)=>match x with
    | @SV.sl T sz c xs=>if sz=j.size then
      .ex T (λy=>0<=m ()/\(xs ())[(m ()).toNat]?=some y) (λy=>.dg (c y) 0) (λ_=>[])
     else .fail
    | .own l=>match b[l]? with
     | some (.dyn e' sz c xs)=>if sz=j.size then
       .kK (λ_=>0<=m ()/\(m ()).toNat < (xs ()).length) (.fq l sz (λ_=>(m ()).toNat) 0) []
      else .fail
     | some (.e7 e' c xs p ys)=>if j.size=1 then
       .kK (λ_=>0<=m ()/\(m ()).toNat < (xs ()).length) (.fq l 1 (λ_=>(m ()).toNat) 0) []
      else .fail
     | _=>.fail
    | .et l sz g h=>match b[l]? with
     | some (.dyn e' iV c xs)=>if sz=j.size then
       .kK (λ_=>0<=m ()/\(m ()).toNat < h () - g ()) (.fq l sz (λ_=>g ()+(m ()).toNat) 0) []
      else .fail
     | _=>.fail
    | .dO cs n=>match ix with
     | .ic _ m=>if 0<=m/\m.toNat < n/\cs.length=n*j.size then .pure (.dg ((cs.drop (m.toNat*j.size)).take j.size) 0) [] else .fail
     | .i _ m=>match X.el e with
      | some E=>.ex (E.T × List E.T) (λy=>cM cs (y.2.flatMap E.c)/\y.2.length=n/\0<=m ()/\y.2[(m ()).toNat]?=some y.1) (λy=>.dg (E.c y.1) 0) (λ_=>[])
      | none=>.fail
     | _=>.fail
    | _=>.fail
   | _,_=>.fail
  | _=>.fail
def Ik (X:Ctx) (t:TypeId) (x ix:SV):dR :=
 match X.tt t with
 | none=>.fail
 | some i=>match i.d,x with
  | .str,.str s=>match ix.jg with
   | some (k,m)=>.kK (λ_=>0<=m ()/\(m ()).toNat < (s ()).size) (.i .u8 λ_=>((s ()).data.toList.getD (m ()).toNat 0).toNat) []
   | none=>.fail
  | .arr n e,.agg cs=>match X.tt e,ix with
   | some j,.ic k m=>if 0<=m/\m.toNat < n/\n*j.size=cs.length then match qW j cs (m.toNat*j.size) with
     | some v=>.pure v []
     | none=>.fail
    else .fail
   | some j,.i k m=>if n*j.size=cs.length then
     .ex Nat (λg=>m ()=(g:Int)/\g < n/\(qW j cs (g*j.size)).isSome=true) (λg=>(qW j cs (g*j.size)).getD .any) (λ_=>[])
    else .fail
   | _,_=>.fail
  | _,_=>.fail
def zW (place:Nat->Option (Nat × Nat)):List (Nat × SV)->List SV->Option (List SV)
 | [],cs=>some cs
 | (j,x) :: r,cs=>match place j,x.cells? with
  | some (off,size),some ys=>if ys.length=size/\off+ys.length<=cs.length then zW place r (putCells cs off ys) else none
  | _,_=>none
def Il (X:Ctx) (t:TypeId) (parts:List (Nat × SV)):dR :=
 match X.tt t with
 | none=>.fail
 | some i=>match i.d with
  | .st fs=>match zW (λj=>(fs[j]?).map (·.2)) parts (i.zero.cells.toList.map jG) with
   | some cs=>.pure (.agg cs) []
   | none=>.fail
  | .arr n e=>match X.tt e with
   | some k=>match zW (λj=>some (j*k.size,k.size)) parts (i.zero.cells.toList.map jG) with
    | some cs=>.pure (.agg cs) []
    | none=>.fail
   | none=>.fail
  | _=>.fail
def sr {α:Type 1} (xs:List α):Nat->List α
 | 0=>[]
 | n+1=>xs++sr xs n
def DP (X:Ctx) (l:Nat) (t:TypeId) (n:Nat) (parts:List (Nat × SV)):dR :=
 match X.tt t with
 | none=>.fail
 | some i =>
       match i.d with
  | .sl e=>match X.tt e with
   | none=>.fail
   | some k=>match n with
    | 0=>match parts,X.el e with
     | [],some E=>match X.emp t with
      | false=>.pure (.own l) [(l,.dyn e k.size E.c λ_=>[])]
      | true=>.pure (.sl k.size E.c λ_=>[]) []
     | _,_=>.fail
    | n+1=>if (n+1)*k.size<=16777216 then
      match zW (λj=>some (j*k.size,k.size)) parts (sr (k.zero.cells.toList.map jG) (n+1)) with
      | some cs=>match X.row t with
       | false=>.pure (.dO cs (n+1)) []
       | true=>match X.el e with
        | some E=>.ex (List E.T) (λys=>cM cs (ys.flatMap E.c)/\ys.length=n+1) (λ_=>.own l) (λys=>[(l,.dyn e k.size E.c λ_=>ys)])
        | none=>.fail
      | none=>.fail
     else .fail
  | _=>.fail
def DS (X:Ctx) (l:Nat) (t:TypeId) (len cap:SV):dR :=
 match X.tt t with
 | none=>.fail
 | some i=>match i.d with
  | .sl e=>match X.tt e,X.el e,len.jg,cap.jg with
   | some k,some E,some (_,n),some (_,m) =>
    .kK (λ_=>0<=n ()/\n ()<=m ()/\(k.bytes:Int)*m ()<=281474976710656/\m ()<=9223372036854775807) (.own l)
     [(l,.dyn e k.size E.c λ_=>List.replicate (n ()).toNat E.z)]
   | _,_,_,_=>.fail
  | _=>.fail
def top (b:List Slot):SV->SV
 | .own l=>match b[l]? with
  | some (.dyn e sz c xs)=>.sl sz c xs
  | _=>.own l
 | .et l sz m k=>match b[l]? with
  | some (.dyn e iV c xs)=>(match Nat.beq sz iV with
   | true=>.sl iV c λ_=>((xs ()).take (k ())).drop (m ())
   | false=>.et l sz m k)
  | _=>.et l sz m k
 | x=>x
def x5 (X:Ctx) (b:List Slot) (t:TypeId) (s x:SV):dR :=
 match X.tt t with
 | none=>.fail
 | some i =>
       match i.d with
  | .sl e=>match X.tt e,s with
   | some k,.own l0=>match b[l0]? with
    | some (@Slot.dyn T e' sz c xs)=>if e'=e/\sz=k.size/\sz=1 then
      .ex (List T) (λys=>Le (top b x) (.sl sz c λ_=>ys)) (λys=>.i .i64 λ_=>((min (xs ()).length ys.length:Nat):Int))
       (λys=>[(l0,.dyn e sz c λ_=>ys.take (xs ()).length++(xs ()).drop ys.length)])
     else .fail
    | _=>.fail
   | _,_=>.fail
  | _=>.fail
def xX (
      X:Ctx) (b:List Slot) (t:TypeId) (x:SV):dR :=
 match X.tt t with
 | none=>.fail
 | some i =>
       match i.d with
  | .sl e=>match X.tt e,x with
   | some k,.et l0 sz g h=>match b[l0]? with
    | some (@Slot.dyn T e' iV c xs)=>if e'=e/\iV=k.size/\sz=1/\k.size=1/\k.agg=false then
      .ex T (λz=>cM (k.zero.cells.toList.map jG) (c z)) (λ_=>.ca [])
       (λz=>[(l0,.dyn e iV c λ_=>(xs ()).take (g ())++List.replicate (h () - g ()) z++(xs ()).drop (g ()+(h () - g ())))])
     else .fail
    | _=>.fail
   | _,_=>.fail
  | _=>.fail
def CV (g:Int->Int->Int) (x y:SV):dR :=
 match x.jg,y.jg with
 | some (k,m),some (k',n)=>if k=k' then .pure (.i k λ_=>g (m ()) (n ())) [] else .fail
 | _,_=>.fail
def Cq (g:Int->Int->Int) (x y z:SV):dR :=
 match x.jg,y.jg,z.jg with
 | some (k,m),some (k',n),some (YH,p)=>if k=k'/\k=YH then .pure (.i k λ_=>g (g (m ()) (n ())) (p ())) [] else .fail
 | _,_,_=>.fail
def vY (X:Ctx) (b:List Slot) (l:Nat) (t:TypeId) (s x:SV):dR :=
 match X.tt t with
 | none=>.fail
 | some i =>
       match i.d with
  | .sl e=>match X.tt e with
   | none=>.fail
   | some k=>match s with
    | .own l0=>match b[l0]? with
     | some (@Slot.dyn T e' sz c xs)=>if e'=e/\sz=k.size then
       .ex (List T) (λys=>Le (top b x) (.sl sz c λ_=>ys)/\((xs ()).length+ys.length)*k.bytes<=140737488355328/\(xs ()).length+ys.length<=9223372036854775807)
        (λ_=>.own l) (λys=>[(l0,.dead),(l,.dyn e sz c λ_=>xs ()++ys)])
      else .fail
     | _=>.fail
    | .et l0 AE g n=>match b[l0]? with
     | some (@Slot.dyn T e' sz c xs)=>if e'=e/\sz=k.size/\AE=k.size then
       .ex (List T) (λys=>(g ()=0/\n ()<=(xs ()).length)/\Le (top b x) (.sl sz c λ_=>ys)/\(n ()+ys.length)*k.bytes<=140737488355328/\n ()+ys.length<=9223372036854775807)
        (λ_=>.own l) (λys=>[(l0,.dead),(l,.dyn e sz c λ_=>(xs ()).take (n ())++ys)])
      else .fail
     | _=>.fail
    | .cH=>match X.el e with
     | some E=>.ex (List E.T) (λys=>Le (top b x) (.sl k.size E.c λ_=>ys)/\ys.length*k.bytes<=140737488355328/\ys.length<=9223372036854775807)
        (λ_=>.own l) (λys=>[(l,.dyn e k.size E.c λ_=>ys)])
     | none=>.fail
    | @SV.fA T sz c xs=>if sz=k.size then
      .ex (List T) (λys=>Le (top b x) (.sl sz c λ_=>ys)/\((xs ()).length+ys.length)*k.bytes<=140737488355328/\(xs ()).length+ys.length<=9223372036854775807/\ys≠[]/\∀z,(c z).all SV.one=true)
       (λ_=>.own l) (λys=>[(l,.dyn e sz c λ_=>xs ()++ys)])
     else .fail
    | .dO cs (n+1)=>match X.el e,x with
     | some E,.dO ds (m+1)=>.ex (List E.T × List E.T) (λy=>cM cs (y.1.flatMap E.c)/\y.1.length=n+1/\cM ds (y.2.flatMap E.c)/\y.2.length=m+1 /\
        (n+1+(m+1))*k.bytes<=140737488355328/\n+1+(m+1)<=9223372036854775807)
       (λ_=>.own l) (λy=>[(l,.dyn e k.size E.c λ_=>y.1++y.2)])
     | _,_=>.fail
    | _=>.fail
  | _=>.fail
def vV (
       X:Ctx) (b:List Slot) (l:Nat) (t t':TypeId) (s x:SV):dR :=
 match s with
 | .cH=>match X.tt t,X.tt t',x.jg with
  | some i,some i',some (k',n)=>match i.d,i'.d with
   | .sl e,.int _=>match X.tt e,X.el e with
    | some k,some E=>if k.size=1/\k'=.i64 then
      .ex (List E.T) (λys=>(ys.length:Int)=n ()/\(∀y∈ys,cM (k.zero.cells.toList.map jG) (E.c y))/\ys.length*k.bytes<=140737488355328/\ys.length<=9223372036854775807)
       (λ_=>.own l) (λys=>[(l,.dyn e k.size E.c λ_=>ys)])
     else .fail
    | _,_=>.fail
   | _,_=>.fail
  | _,_,_=>.fail
 | .own l0=>match b[l0]? with
  | some (
      @Slot.dyn T e' sz c xs)=>match X.tt t,X.tt t',x.jg with
   | some i,some i',some (k',n)=>match i.d,i'.d with
    | .sl e,.int _=>match X.tt e with
     | some k=>if e'=e/\sz=k.size/\k.size=1/\k'=.i64 then
       .ex (List T) (λys=>(ys.length:Int)=n ()/\(∀y∈ys,cM (k.zero.cells.toList.map jG) (c y))/\((xs ()).length+ys.length)*k.bytes<=140737488355328/\(xs ()).length+ys.length<=9223372036854775807)
        (λ_=>.own l) (λys=>[(l0,.dead),(l,.dyn e sz c λ_=>xs ()++ys)])
      else .fail
     | none=>.fail
    | _,_=>.fail
   | _,_,_=>.fail
  | _=>.fail
 | _=>.fail
def bound (len:Unit->Nat):Option SV->Option (Unit->Int)
 | none=>some λ_=>len ()
 | some x=>match x.jg with
  | some (_,n)=>some n
  | none=>none
def lower:Option SV->Option (Unit->Int)
 | none=>some λ_=>0
 | some x=>match x.jg with
  | some (_,n)=>some n
  | none=>none
def Xq:SV->Bool
 | .cH|.own _|.dO ..|.sl ..=>true
 | _=>false
def clip:Option SV->Option SV->Option SV->Bool
 | none,some (.ic _ 0),some (.ic _ 0)=>true
 | _,_,_=>false
def xY (
      X:Ctx) (b:List Slot) (l:Nat) (t:TypeId) (x:SV) (lo hi mx:Option SV):dR :=
 match X.tt t with
 | none=>.fail
 | some i =>
       match i.d with
  | .sl e=>match X.tt e with
   | none=>.fail
   | some k =>
         if clip lo hi mx&&Xq x then
     match X.el e with
     | some E=>.pure (.own l) [(l,.dyn e k.size E.c λ_=>[])]
     | none=>.fail
    else match x,mx with
     | @SV.sl T sz c xs,some z=>if sz=k.size then
       match lo,hi.bind SV.jg,z.jg with
       | none,some (_,n),some (_,m)=>.kK (λ_=>n ()=(xs ()).length/\m ()=(xs ()).length) (.fA sz c xs) []
       | _,_,_=>.fail
      else .fail
     | @SV.sl T sz c xs,none=>if sz=k.size then
       match lower lo,bound (λ_=>(xs ()).length) hi with
       | some m,some n=>.kK (λ_=>0<=m ()/\m ()<=n ()/\n ()<=(xs ()).length) (.sl sz c λ_=>((xs ()).take (n ()).toNat).drop (m ()).toNat) []
       | _,_=>.fail
      else .fail
     | .own l0,none=>match b[l0]? with
      | some (.dyn e' sz c xs)=>if sz=k.size then
        match lower lo,bound (λ_=>(xs ()).length) hi with
        | some m,some n=>.kK (λ_=>0<=m ()/\m ()<=n ()/\n ()<=(xs ()).length) (.et l0 k.size (λ_=>(m ()).toNat) (λ_=>(n ()).toNat)) []
        | _,_=>.fail
       else .fail
      | _=>.fail
     | .et l0 sz g h,none=>match b[l0]? with
      | some (.dyn e' iV c xs)=>if sz=k.size then
        match lower lo,bound (λ_=>h () - g ()) hi with
        | some m,some n=>.kK (λ_=>0<=m ()/\m ()<=n ()/\(n ()).toNat<=h () - g ()) (.et l0 k.size (λ_=>g ()+(m ()).toNat) (λ_=>g ()+(n ()).toNat)) []
        | _,_=>.fail
       else .fail
      | _=>.fail
     | .cH,none=>match lo,hi with
      | none,some (.ic _ 0)=>.pure .cH []
      | _,_=>.fail
     | .dO cs n,none=>match X.el e with
      | some E=>match lower lo,bound (λ_=>n) hi with
       | some m,some h=>.ex (List E.T) (λl=>l.length=n/\cM cs (l.flatMap E.c)/\0<=m ()/\m ()<=h ()/\h ()<=n)
         (λl=>.sl k.size E.c λ_=>(l.take (h ()).toNat).drop (m ()).toNat) (λ_=>[])
       | _,_=>.fail
      | none=>.fail
     | _,_=>.fail
  | .str=>match x,mx with
   | .str s,none=>match lower lo,bound (λ_=>(s ()).size) hi with
    | some m,some n=>.kK (λ_=>0<=m ()/\m ()<=n ()/\n ()<=(s ()).size) (.str λ_=>(s ()).extract (m ()).toNat (n ()).toNat) []
    | _,_=>.fail
   | _,_=>.fail
  | .arr n e=>match X.tt e,X.el e with
   | some k,some E=>match x,mx with
    | .dg cs off,none=>match lower lo,bound (λ_=>n) hi with
     | some m,some h=>.ex (List E.T) (λl=>l.length=n/\cM ((cs.drop off).take (n*k.size)) (l.flatMap E.c)/\0<=m ()/\m ()<=h ()/\h ()<=n)
       (λl=>.sl k.size E.c λ_=>(l.take (h ()).toNat).drop (m ()).toNat) (λ_=>[])
     | _,_=>.fail
    | _,_=>.fail
   | _,_=>.fail
  | _=>.fail
def Ad (X:Ctx) (b:List Slot) (t:TypeId) (x:SV):dR :=
 match X.tt t with
 | none=>.fail
 | some i=>match i.d,x with
  | .str,.str s=>.pure (.i .i64 λ_=>(s ()).size) []
  | .arr n _,_=>.pure (.ic .i64 n) []
  | .sl _,.cH=>.pure (.ic .i64 0) []
  | .sl _,.dO _ n=>.pure (.ic .i64 n) []
  | .sl _,.sl sz c xs=>.pure (.i .i64 λ_=>(xs ()).length) []
  | .sl _,.fA sz c xs=>.pure (.i .i64 λ_=>(xs ()).length) []
  | .sl _,.own l=>match b[l]? with
   | some (.dyn e sz c xs)=>.pure (.i .i64 λ_=>(xs ()).length) []
   | _=>.fail
  | .sl _,.et l sz m k=>match b[l]? with
   | some (.dyn e iV c xs)=>.pure (.i .i64 λ_=>((k () - m ():Nat):Int)) []
   | _=>.fail
  | .map _ _,.mp k c m=>.ex (List k.T) (λks=>ks.Nodup/\∀n,n∈ks↔(m () n).isSome=true) (λks=>.i .i64 λ_=>ks.length) (λ_=>[])
  | .map _ _,.fy l=>match b[l]? with
   | some (.map k c m)=>.ex (List k.T) (λks=>ks.Nodup/\∀n,n∈ks↔(m () n).isSome=true) (λks=>.i .i64 λ_=>ks.length) (λ_=>[])
   | _=>.fail
  | _,_=>.fail
def Jg (X:Ctx) (t:TypeId) (x:SV):dR :=
 match X.tt t with
 | none=>.fail
 | some i=>match i.d,x with
  | .sl _,.cH=>.pure (.ic .i64 0) []
  | _,_=>.fail
def Im (X:Ctx) (t:TypeId) (x:SV) (j:Nat):dR :=
 match X.tt t,x with
 | some i,.agg cs=>match i.d with
  | .st fs=>match fs[j]? with
   | some (ft,o,_)=>match X.tt ft with
    | some k=>match qW k cs o with
     | some v=>.pure v []
     | none=>.fail
    | none=>.fail
   | none=>.fail
  | _=>.fail
 | _,_=>.fail
def Vw (X:Ctx) (vt:TypeId) (vi:TI):Option (Σ T:Type,T->List SV):=match vi.d with
 | .bool=>some ⟨Unit,λ_=>[.bc true]⟩
 | _=>match X.el vt with
  | some E=>match vi.agg with
   | true=>some ⟨E.T,λt=>[.agg (E.c t)]⟩
   | false=>some ⟨E.T,E.c⟩
  | none=>none
def TI.key (i:TI):Option KD:=match i.d with
 | .int k=>some (.int k)
 | _=>match i.kd with
  | some ks=>some (.ints ks)
  | none=>none
def Ae:List IntKind->List SV->Option (Unit->List Int)
 | [],[]=>some λ_=>[]
 | k :: ks,x :: xs=>match x.jg,Ae ks xs with
  | some (k',n),some f=>if k'=k then some (λ_=>n () :: f ()) else none
  | _,_=>none
 | _,_=>none
def KD.key:(k:KD)->SV->Option (Unit->k.T)
 | .int k,x=>match x.jg with
  | some (k',n)=>if k'=k then some n else none
  | none=>none
 | .ints ks,.agg cs=>Ae ks cs
 | .ints _,_=>none
def Fh:Nat->List IntKind->List Int->List SV
 | _,[],_=>[]
 | j,k :: ks,l=>.i k (λ_=>l.getD j 0) :: Fh (j+1) ks l
def KD.sv:(k:KD)->k.T->SV
 | .int k,n=>.i k (λ_=>n)
 | .ints ks,l=>.agg (Fh 0 ks l)
def Eu (X:Ctx) (l:Nat) (t:TypeId):dR :=
 match X.tt t with
 | none=>.fail
 | some i=>match i.d with
  | .map kt vt=>match X.tt kt,X.tt vt with
   | some ki,some vi=>match ki.key,Vw X vt vi with
    | some k,some E=>.pure (.fy l) [(l,.map k E.2 λ_ _=>none)]
    | _,_=>.fail
   | _,_=>.fail
  | _=>.fail
def H6 {T:Type} (z:Value) (c:T->List SV) (b:Unit->Bool):Option (Option T)->SV
 | none=>.b b
 | some (some t)=>(c t).headD .any
 | some none=>wH z
def EP {T:Type} (b:Unit->Bool):Option (Option T)->SV
 | none=>.b b
 | some (some _)=>.bc true
 | some none=>.bc false
def Wv {T:Type} (z:Value) (c:T->List SV) (r:Option T):Option (Option T)->Prop
 | none=>z=.bool false/\∀t,c t=[.bc true]
 | some o=>r=o
def Nk {T K:Type} (z:Value) (c:T->List SV) (m:Unit->K->Option T) (n:Unit->K) (ok:Bool):dR :=
 .ex (Option (Option T)) (λo=>Wv z c (m () (n ())) o)
  (λo=>match ok with
   | true=>.ca [H6 z c (λ_=>(m () (n ())).isSome) o,EP (λ_=>(m () (n ())).isSome) o]
   | false=>H6 z c (λ_=>(m () (n ())).isSome) o) (λ_=>[])
def zF (X:Ctx) (b:List Slot) (t:TypeId) (x ix:SV) (ok:Bool):dR :=
 match X.tt t with
 | none=>.fail
 | some i =>
       match i.d with
  | .map kt vt=>match X.tt kt,X.tt vt with
   | some ki,some vi=>match ki.key with
    | some kk=>match x with
     | .mp k c m=>if k=kk then match k.key ix with
       | some n=>Nk vi.zero c m n ok
       | none=>.fail
      else .fail
     | .fy l=>match b[l]? with
      | some (.map k c m)=>if k=kk then match k.key ix with
        | some n=>Nk vi.zero c m n ok
        | none=>.fail
       else .fail
      | _=>.fail
     | .v x=>match kk.key ix with
      | some n=>.ex Unit (λ_=>x ()=.map none) (λ_=>match ok with|true=>.ca [wH vi.zero,.bc false]|false=>wH vi.zero) (λ_=>[])
      | none=>.fail
     | _=>.fail
    | none=>.fail
   | _,_=>.fail
  | _=>.fail
def vN (
        X:Ctx) (b:List Slot) (t:TypeId) (x ix y:SV):dR :=
 match X.tt t with
 | none=>.fail
 | some i =>
       match i.d with
  | .map kt vt=>match X.tt kt with
   | some ki=>match ki.key with
    | some kk=>match x with
     | .fy l=>match b[l]? with
      | some (@Slot.map T k c m)=>if k=kk then match k.key ix with
        | some n=>.ex T (λt=>cM [y] (c t)) (λ_=>.any) (λt=>[(l,.map k c λ_=>k.iz (m ()) (n ()) t)])
        | none=>.fail
       else .fail
      | _=>.fail
     | _=>.fail
    | none=>.fail
   | none=>.fail
  | _=>.fail
def zM (b:List Slot) (x:SV):dR :=
 match x with
 | .ptr l 0=>match b[l]? with
  | some (.iter k c m seen (some (n,t)))=>.pure (.ca (k.sv n :: c t)) []
  | _=>.fail
 | _=>.fail
def ER (X:Ctx) (l:Nat) (t:TypeId) (x:SV):dR :=
 match X.tt t with
 | none=>.fail
 | some i=>match i.d,x with
  | .map _ _,.mp k c m=>.pure (.ptr l 0) [(l,.iter k c m (λ_=>[]) none)]
  | _,_=>.fail
def SV.gW:SV->Bool
 | .ptr ..|.fq ..|.own _|.et ..|.fy _|.fK _=>true
 | .agg cs=>cs.any λ|.ptr ..|.fq ..|.own _|.et ..|.fy _|.fK _=>true|.fn ..|.lu ..|.agg _|.ca _|.dg ..|.dO ..=>true|_=>false
 | .ca _|.fn ..|.lu ..|.dg ..|.dO ..=>true
 | _=>false
mutual
def SV.lb:SV->Bool
 | .ptr ..|.fq ..|.own _|.et ..|.fy _|.fK _=>true
 | .fn _ xs ys=>pz xs||pz ys
 | .agg cs=>pz cs
 | .ca cs=>pz cs
 | .dO cs _=>pz cs
 | .dg cs _=>pz cs
 | _=>false
def pz:List SV->Bool
 | []=>false
 | x :: r=>x.lb||pz r
end
mutual
def jc:SV->SV
 | .ptr ..|.fq ..|.own _|.et ..|.fy _|.fK _=>.cell
 | .agg cs=>.agg (uI cs)
 | .ca cs=>.ca (uI cs)
 | .fn f xs ys=>.fn f (uI xs) (uI ys)
 | x=>x
def uI:List SV->List SV
 | []=>[]
 | x :: r=>jc x :: uI r
end
def Cc (X:Ctx) (b:List Slot) (f:FuncId) (args:List SV):dR :=
 match X.sp f with
 | none=>.fail
 | some S=>if args.any SV.gW then
   .ex S.α (λa=>(cM (args.map (view b)) (S.args a)/\((S.res a).scalar||(S.fr||!pz args))=true\/cM (uI args) (S.args a))/\S.pre a) S.res (λ_=>[])
  else .ex S.α (λa=>cM args (S.args a)/\S.pre a) S.res (λ_=>[])
def xJ (X:Ctx) (b:List Slot) (l:Nat) (bi:Builtin) (ts:List TypeId) (xs:List SV):dR :=
 match bi with
 | .len=>match ts,xs with
  | [t],[x]=>Ad X b t x
  | _,_=>.fail
 | .append=>match ts,xs with
  | [t,t'],[x,y]=>if t=t' then vY X b l t x y else vV X b l t t' x y
  | _,_=>.fail
 | .copy=>match ts,xs with
  | [t,t'],[x,y]=>if t=t' then x5 X b t x y else .fail
  | _,_=>.fail
 | .clear=>match ts,xs with
  | [t],[x]=>xX X b t x
  | _,_=>.fail
 | .min=>match xs with
  | [x,y]=>CV min x y
  | [x,y,z]=>Cq min x y z
  | _=>.fail
 | .max=>match xs with
  | [x,y]=>CV max x y
  | [x,y,z]=>Cq max x y z
  | _=>.fail
 | .cap=>match ts,xs with
  | [t],[x]=>Jg X t x
  | _,_=>.fail
 | _=>.fail
def dN (X:Ctx) (s:St) (l:Nat):Op->dR
 | .move x|.assign x=>.pure (ev s x) []
 | .pick c a b=>IM (ev s c) (ev s a) (ev s b)
 | .alloc e=>match X.tt e with
  | some i=>.pure (.ptr l 0) [(l,.fix e (i.zero.cells.toList.map jG))]
  | none=>.fail
 | .box e x=>match X.tt e,(ev s x).cells? with
  | some i,some cs=>.pure (.ptr l 0) [(l,.fix e cs)]
  | _,_=>.fail
 | .build t parts=>Il X t (parts.toList.map λp=>(p.1,ev s p.2))
 | .buildSlice t n parts=>DP X l t n (parts.toList.map λp=>(p.1,ev s p.2))
 | .load t x=>zV X s.b t (ev s x)
 | .store t x y=>xW X s.b t (ev s x) (ev s y)
 | .nilCheck x=>match ev s x with
  | .ptr l off=>.pure (.ptr l off) []
  | .dg cs off=>.pure (.dg cs off) []
  | .fn (.func f) fs cs=>.pure (.fn (.func f) fs cs) []
  | _=>.fail
 | .binOp op t x y _=>Jf X op t (ev s x) (ev s y)
 | .unOp op _ x=>JQ op (ev s x)
 | .convert src dst x=>IN X src dst (ev s x)
 | .makeFunc fn first cap=>.pure (.fn fn (first.toList.map (ev s)) (cap.toList.map (ev s))) []
 | .makeSlice t n m=>DS X l t (ev s n) (ev s m)
 | .slice t x lo hi mx=>xY X s.b l t (ev s x) (lo.map (ev s)) (hi.map (ev s)) (mx.map (ev s))
 | .fieldAddr t x j=>DR X t (ev s x) j
 | .field t x j=>Im X t (ev s x) j
 | .indexAddr t x i=>xu X s.b t (ev s x) (ev s i)
 | .index t x i=>Ik X t (ev s x) (ev s i)
 | .extract x j=>match ev s x with
  | .ca cs=>match cs[j]? with
   | some v=>.pure v []
   | none=>.fail
  | _=>.fail
 | .makeMap t r=>match r with
  | none=>Eu X l t
  | some _=>.fail
 | .lookup t x i ok=>zF X s.b t (ev s x) (ev s i) ok
 | .mapUpdate t x i y=>vN X s.b t (ev s x) (ev s i) (ev s y)
 | .insert t x i y=>vN X s.b t (ev s x) (ev s i) (ev s y)
 | .range t x=>ER X l t (ev s x)
 | .entry x=>zM s.b (ev s x)
 | .call c=>match c.callee with
  | .value g=>match ev s g with
   | .fn (.func f) first cap=>Cc X s.b f (first++c.args.toList.map (ev s)++cap)
   | _=>.fail
  | .builtin bi=>xJ X s.b l bi c.argTypes.toList (c.args.toList.map (ev s))
  | _=>.fail
 | _=>.fail
def qa:Op->Bool
 | .store ..|.mapUpdate ..|.insert ..=>true
 | _=>false
def fl:Op->Bool
 | .alloc _|.box ..|.buildSlice ..|.makeSlice ..|.makeMap ..|.range ..=>true
 | .slice _ _ _ _ (some _)=>true
 | .call { callee:=.builtin .append,.. }=>true
 | _=>false
def eJ (P:Program) (f:Fr) (s:St) (o:Oper) (a:Act) (w:World) (R:SV->List (Nat × Slot)->Prop):Prop :=
 ∃x u,R x u/\∀(K:Act->World->Prop) (Q:Exit->Act->World->Prop),
  (∀η' H' w' v,Den f (s.iz o.dst x u) η' H' (a.put o.dst v) w'->K (a.put o.dst v) w')->o.wp P a w K Q
section
variable {P:Program} {X:Ctx} {f:Fr} {s:St} {η:Nat->Value} {H:aV} {a:Act} {w:World} {o:Oper} {R:SV->List (Nat × Slot)->Prop}
theorem vW (D:Den f s η H a w) {x:SV} {v:Value} {w':World} (hr:(execOp a.eval o).run P w=.ok (.value v) w') (g:w.grownBy w' none)
  (hx:rel η (aN s.b) H x v) (h:R x []):eJ P f s o a w R :=
 ⟨x,[],h,λK Q hk=>by
  unfold Oper.wp
  rw [hr]
  exact hk η H w' v ((D.grown g).put o.dst hx)⟩
theorem dH (D:Den f s η H a w) {x:SV} {v:Value} (hr:∀w,(execOp a.eval o).run P w=.ok (.value v) w)
 (hx:rel η (aN s.b) H x v) (h:R x []):eJ P f s o a w R:=vW D (hr w) (nU w none) hx h
theorem Den.zG (D:Den f s η H a w) (t:Nat):rel η (aN s.b) H ((s.t[t]?).getD .any) (a.tmps.getD t undef):=by
 cases h:s.t[t]? with
 | none=>simp [rel]
 | some x =>
  obtain ⟨u,h1,h2⟩:=rW D.t t x h
  have h3:a.tmps[t]?=some u:=by simpa using h1
  rw [Ep,h3]
  exact h2
theorem Mw (η:Nat->Value) (q:Nat->Live) (H:aV) (v:Value):rel η q H (jG v) v:=by
 unfold jG
 split<;>simp [rel]
theorem xz (η:Nat->Value) (q:Nat->Live) (H:aV):∀(vs:List Value),aK η q H (vs.map jG) vs
 | []=>by simp [aK]
 | v :: r=>by simp only [gS,aK];exact ⟨v,r,rfl,Mw η q H v,xz η q H r⟩
theorem H7 (η:Nat->Value) (q:Nat->Live) (H:aV) (v:Value):rel η q H (wH v) v:=by
 unfold wH
 split
 ·rename_i cs
  simp only [rel]
  exact ⟨cs.toList,by simp,xz η q H _⟩
 ·exact Mw η q H v
theorem Den.ev (D:Den f s η H a w) (x:Operand):rel η (aN s.b) H (ev s x) (a.eval x):=by
 cases x with
 | tmp t=>exact D.zG t
 | const v=>exact H7 η _ H v
 | global g=>simp [Vc.ev,Act.eval,rel]
 | func g=>simp only [Vc.ev,Act.eval,rel];exact ⟨[],[],by simp,by simp [aK],by simp [aK]⟩
theorem Den.AF (D:Den f s η H a w):∀xs:List Operand,aK η (aN s.b) H (xs.map (Vc.ev s)) (xs.map a.eval)
 | []=>by simp [aK]
 | x :: r=>by simp only [gS,aK];exact ⟨_,_,rfl,D.ev x,D.AF r⟩
theorem abp {v:Value} (h:v.oneCell'=true):v.cells=#[v]:=by
 cases v<;>first|rfl|simp [Value.oneCell'] at h
theorem BT {q:Nat->Live}:∀{xs:List SV} {vs:List Value},xs.all SV.one=true->aK η q H xs vs->∀v∈vs,v.oneCell'=true
 | [],vs,_,h,v,hv=>by simp only [aK] at h;subst h;simp at hv
 | x :: r,vs,ho,h,v,hv=>by
  simp only [aK] at h
  obtain ⟨u,us,rfl,h1,h2⟩:=h
  simp only [zn,cu] at ho
  rcases cx.1 hv with rfl|hv
  ·exact v7 ho.1 h1
  ·exact BT ho.2 h2 v hv
theorem Mx {q:Nat->Live} {x:SV} {v:Value} {ys:List SV} (hc:x.cells?=some ys) (h:rel η q H x v) :
  aK η q H ys v.cells.toList/\∀u∈v.cells.toList,u.oneCell'=true:=by
 unfold SV.cells? at hc
 split at hc
 ·rename_i cs
  split at hc
  ·rename_i ho
   simp at hc;subst hc
   simp only [rel] at h
   obtain ⟨vs,rfl,h2⟩:=h
   simp only [Value.cells]
   exact ⟨h2,BT ho h2⟩
  ·cases hc
 ·split at hc
  ·rename_i ho
   simp at hc;subst hc
   have h1:=v7 ho h
   rw [abp h1]
   refine ⟨by simp only [aK];exact ⟨v,[],rfl,h,rfl⟩,λu hu=>by simp at hu;subst hu;exact h1⟩
  ·cases hc
theorem Io {q:Nat->Live} {x:SV} {v:Value} {y:Unit->Bool} (hc:x.CU=some y) (h:rel η q H x v):v=.bool (y ()):=by
 cases x<;>simp [SV.CU] at hc<;>subst hc<;>simpa [rel] using h
theorem lF {q:Nat->Live} {x:SV} {v:Value} {k:IntKind} {y:Unit->Int} (hc:x.jg=some (k,y)) (h:rel η q H x v):v=.int k (y ()):=by
 cases x<;>simp [SV.jg] at hc<;>obtain ⟨rfl,rfl⟩:=hc<;>simpa [rel] using h
theorem Vx (D:Den f s η H a w) (x:Operand) (ho:o.op=.move x\/o.op=.assign x) (h:R (Vc.ev s x) []):eJ P f s o a w R :=
 dH D (v:=a.eval x) (λw=>by rcases ho with ho|ho<;>simp [execOp,ho]) (D.ev x) h
theorem afJ (D:Den f s η H a w) (c x y:Operand) (ho:o.op=.pick c x y) (h:(IM (Vc.ev s c) (Vc.ev s x) (Vc.ev s y)).K R):eJ P f s o a w R:=by
 have hc:=D.ev c
 have hx:=D.ev x
 have hy:=D.ev y
 unfold IM at h
 split at h
 ·rename_i e;rw [e] at hc;simp only [rel] at hc
  exact dH D (v:=a.eval x) (λw=>by simp [execOp,ho,hc,asBool]) hx h
 ·rename_i e;rw [e] at hc;simp only [rel] at hc
  exact dH D (v:=a.eval y) (λw=>by simp [execOp,ho,hc,asBool]) hy h
 ·rename_i z e;rw [e] at hc;simp only [rel] at hc
  split at h
  ·rename_i f g hf hg
   have h1:=Io hf hx
   have h2:=Io hg hy
   refine dH D (v:=if z () then a.eval x else a.eval y) (λw=>by simp [execOp,ho,hc,asBool]) ?_ h
   simp only [rel]
   rw [h1,h2]
   split<;>rfl
  ·exact h.elim
 ·exact h.elim
theorem Sa {op:BinOp} {k:IntKind} {x y:Int} {v:Value} (h:∀w,(match op with
  | .add|.sub|.mul=>Op.intArith op k x y
  | .quo|.rem=>Op.intDiv op k x y
  | .and|.or|.xor|.andNot=>Op.intBits op k x y
  | _=>Op.intCmp op x y:Sem Value).run P w=.ok v w) (hs:zD op=false) (t:TypeId) (X Y:Operand) (w:World) :
  (do eqGuard op t X Y (.int k x) (.int k y);binOp op t (.int k x) (.int k y):Sem Value).run P w=.ok v w:=by
 have:=h w
 cases op<;>simp [zD] at hs<;>simp_all [eqGuard,binOp]
theorem adt (D:Den f s η H a w) (op:BinOp) (t t':TypeId) (x y:Operand) (ho:o.op=.binOp op t x y t') {k:IntKind} {m n:Unit->Int}
  (hs:zD op=false) (hx:(Vc.ev s x).jg=some (k,m)) (hy:(Vc.ev s y).jg=some (k,n)) (h:(xV op k m n).K R):eJ P f s o a w R:=by
 have h1:=lF hx (D.ev x)
 have h2:=lF hy (D.ev y)
 have main:∀v X,(∀w,(match op with
  | .add|.sub|.mul=>Op.intArith op k (m ()) (n ())
  | .quo|.rem=>Op.intDiv op k (m ()) (n ())
  | .and|.or|.xor|.andNot=>Op.intBits op k (m ()) (n ())
  | _=>Op.intCmp op (m ()) (n ()):Sem Value).run P w=.ok v w)->rel η (aN s.b) H X v->R X []->eJ P f s o a w R:=by
  intro v X hv hX hR
  refine dH D (v:=v) (λw=>?_) hX hR
  have:=Sa hv hs t x y w
  simp only [execOp,ho,h1,h2,Sem.run_bind,this,Result.andThen_ok,Sem.run_pure]
 unfold xV at h
 cases op<;>simp only [dR.K] at h<;>simp only [zD] at hs
 case add=>exact main (.int k _) _ (λw=>rfl) (by simp only [rel]) h
 case sub=>exact main (.int k _) _ (λw=>rfl) (by simp only [rel]) h
 case mul=>exact main (.int k _) _ (λw=>rfl) (by simp only [rel]) h
 case quo=>obtain ⟨⟨h0⟩,h⟩:=h;exact main (.int k _) _ (λw=>by simp only [Op.intDiv,h0,if_false];rfl) (by simp only [rel]) h
 case rem=>obtain ⟨⟨h0⟩,h⟩:=h;exact main (.int k _) _ (λw=>by simp only [Op.intDiv,h0,if_false];rfl) (by simp only [rel]) h
 case and=>exact main (.int k _) _ (λw=>rfl) (by simp only [rel,fJ]) h
 case or=>exact main (.int k _) _ (λw=>rfl) (by simp only [rel,fJ]) h
 case xor=>exact main (.int k _) _ (λw=>rfl) (by simp only [rel,fJ]) h
 case andNot=>exact main (.int k _) _ (λw=>rfl) (by simp only [rel,fJ]) h
 case eql=>exact main (.bool _) _ (λw=>rfl) (by simp only [rel,gG]) h
 case neq=>exact main (.bool _) _ (λw=>rfl) (by simp only [rel,gG,bne]) h
 case lss=>exact main (.bool _) _ (λw=>rfl) (by simp only [rel,fu]) h
 case leq=>exact main (.bool _) _ (λw=>rfl) (by simp only [rel,jI]) h
 case gtr=>exact main (.bool _) _ (λw=>rfl) (by simp only [rel,fu]) h
 case geq=>exact main (.bool _) _ (λw=>rfl) (by simp only [rel,jI]) h
 all_goals first|exact h.elim|cases hs
theorem adu {op:BinOp} {k:IntKind} {m n:Int} (h:(BZ op k m n).K R) :
  ∃X,R X []/\zD op=false/\∀(v:Value) (η:Nat->Value) (q:Nat->Live) (H:aV) (Y:SV),
   (xV op k (λ_=>m) (λ_=>n))=.pure Y []->rel η q H Y v->rel η q H X v:=by
 cases op<;>simp only [BZ,dR.K] at h
 case add|sub|mul|eql|neq|lss|leq|gtr|geq =>
  refine ⟨_,h,rfl,λv η q H Y hY hr=>?_⟩
  simp only [xV,dR.pure.injEq,and_true] at hY
  subst hY
  simpa only [rel] using hr
 all_goals exact h.elim
theorem aiw (D:Den f s η H a w) (op:UnOp) (t:TypeId) (x:Operand) (ho:o.op=.unOp op t x) (h:(JQ op (Vc.ev s x)).K R):eJ P f s o a w R:=by
 have hx:=D.ev x
 unfold JQ at h
 split at h<;>first|exact h.elim|skip
 all_goals
  rename_i e
  rw [e] at hx
  simp only [rel] at hx
 case h_3 =>
  rename_i d p _
  obtain ⟨c,hc,hp⟩:=hx
  refine dH D (v:=.bool (!c)) (λw=>by simp [execOp,ho,hc,Op.unary]) (by simp only [rel];exact ⟨!c,rfl,λe=>hp (by cases c<;>cases d<;>simp_all)⟩) h
 case h_6 =>
  split at h<;>first|exact h.elim|skip
  rename_i hs
  exact dH D (v:=.int _ _) (λw=>by simp only [execOp,ho,hx,Op.unary,hs,if_true];rfl) (by simp only [rel,fJ]) h
 all_goals
  refine dH D (v:=_) (λw=>by simp [execOp,ho,hx,Op.unary,Op.intArith];rfl) (by simp [rel]) h
theorem afK (C:X.Ok P) (D:Den f s η H a w) (src dst:TypeId) (x:Operand) (ho:o.op=.convert src dst x) (h:(IN X src dst (Vc.ev s x)).K R):eJ P f s o a w R:=by
 have hx:=D.ev x
 unfold IN at h
 split at h
 ·rename_i i j hi hj
  have Ii:=C.tt _ _ hi
  have Ij:=C.tt _ _ hj
  have Pe:∃d,P.underlying src=some d:=by
   have:=Ii.desc
   split at this
   all_goals first
    | exact ⟨_,this⟩
    | (obtain ⟨d,h,_⟩:=this;exact ⟨_,h⟩)
  obtain ⟨d,hd⟩:=Pe
  have wI:=Ij.desc
  split at h<;>first|exact h.elim|skip
  ·rename_i k k' n e1 e2
   rw [e1] at wI;rw [e2] at hx
   simp only [rel] at hx
   refine dH D (v:=.int k (k.wrap n)) (λw=>by simp [execOp,ho,hx,convert,run_underlying hd,run_underlying wI,Conv.intToInt]) (by simp [rel]) h
  ·rename_i k k' n e1 e2
   rw [e1] at wI;rw [e2] at hx
   simp only [rel] at hx
   refine dH D (v:=.int k (k.wrap (n ()))) (λw=>by simp [execOp,ho,hx,convert,run_underlying hd,run_underlying wI,Conv.intToInt]) (by simp [rel]) h
  ·rename_i y e1 e2
   rw [e1] at wI;rw [e2] at hx
   simp only [rel] at hx
   refine dH D (v:=.string (y ())) (λw=>by simp [execOp,ho,hx,convert,run_underlying hd,run_underlying wI]) (by simp [rel]) h
 ·exact h.elim
end
end Go.Vc
