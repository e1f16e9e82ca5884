import Derived.Test.YthnhbemmlfaihaaGreatA0
set_option linter.unusedVariables false
set_option linter.unusedSimpArgs false
set_option maxRecDepth 10000
set_option maxHeartbeats 64000000
namespace Go.Vc
open Go
structure vY (p:Unit->Prop):Prop where
 out:p ()
structure we (x:Unit->Bool):Prop where
 out:x ()=true
structure wg (x:Unit->Bool):Prop where
 out:x ()=false
structure Hyp (p:Unit->Prop):Prop where
 out:p ()
section
variable {η:Nat->Value} {H:aZ}
theorem agH {x:Unit->Value} (ho:(SV.v x).one=true):(x ()).oneCell'=true:=by
 unfold SV.one at ho
 simp only at ho
 split at ho<;>first|(rename_i e;rw [e];rfl)|cases ho
theorem vL {q:Nat->Live} {x:SV} {v:Value} (ho:x.one=true) (h:rel η q H x v):v.oneCell'=true:=by
 cases x<;>first|(have hv:=agH ho;simp only [rel] at h;rw [h];exact hv)|skip
 all_goals (simp [SV.one] at ho)<;>simp only [rel] at h
 case bc=>subst h;rfl
 case b=>subst h;rfl
 case nb=>obtain ⟨c,rfl,_⟩:=h;rfl
 case ic=>subst h;rfl
 case i=>subst h;rfl
 case str=>subst h;rfl
 case cell=>exact h
 case cG=>subst h;rfl
 case ptr l off =>
  split at h
  ·exact h.elim
  ·obtain ⟨x,rfl⟩:=h;rfl
  ·obtain ⟨bl,_,rfl⟩:=h;rfl
 case fB l sz i off =>
  split at h
  ·exact h.elim
  ·obtain ⟨x,rfl⟩:=h;rfl
  ·obtain ⟨bl,n,c,_,rfl⟩:=h;rfl
 case own l =>
  split at h
  ·exact h.elim
  ·obtain ⟨x,n,c,rfl⟩:=h;rfl
  ·obtain ⟨_,x,n,c,rfl⟩:=h;rfl
 case eA l sz m n =>
  split at h
  ·exact h.elim
  ·obtain ⟨x,n,c,rfl⟩:=h;rfl
  ·obtain ⟨x,n,c,rfl⟩:=h.isSlice;rfl
 case dK=>obtain ⟨ad,rfl,_⟩:=h;rfl
 case sl=>obtain ⟨⟨ad,cap,rfl,_⟩,_⟩:=h;rfl
 case db=>obtain ⟨ad,rfl,_⟩:=h;rfl
 case fn=>obtain ⟨fs,cs,rfl,_⟩:=h;rfl
 case k7=>obtain ⟨y,rfl,_⟩:=h;rfl
 case fC=>obtain ⟨⟨ad,rfl,_⟩,_⟩:=h;rfl
 case mp=>rcases h.1 with ⟨rfl,_⟩|⟨_,_,_,rfl,_⟩<;>rfl
 case fA l =>
  split at h
  ·exact h.elim
  ·obtain ⟨x,rfl⟩:=h;rfl
  ·obtain ⟨_,x,rfl⟩:=h;rfl
 case fI l =>
  split at h
  ·exact h.elim
  ·obtain ⟨x,rfl⟩:=h;rfl
  ·obtain ⟨bl,_,rfl⟩:=h;rfl
end
mutual
inductive Le:SV->SV->Prop
 | refl (x:SV):Le x x
 | any (x:SV):Le x .any
 | cell {x:SV}:x.one=true->Le x .cell
 | b {x y:Unit->Bool}:x ()=y ()->Le (.b x) (.b y)
 | bc {c:Bool} {y:Unit->Bool}:c=y ()->Le (.bc c) (.b y)
 | EP {x:Unit->Bool} {c:Bool}:x ()=c->Le (.b x) (.bc c)
 | i {k:IntKind} {x y:Unit->Int}:x ()=y ()->Le (.i k x) (.i k y)
 | ic {k:IntKind} {n:Int} {y:Unit->Int}:n=y ()->Le (.ic k n) (.i k y)
 | ahY {k:IntKind} {x:Unit->Int} {n:Int}:x ()=n->Le (.i k x) (.ic k n)
 | str {x y:Unit->ByteArray}:x ()=y ()->Le (.str x) (.str y)
 | v {x y:Unit->Value}:x ()=y ()->Le (.v x) (.v y)
 | agg {cs ds:List SV}:cO cs ds->Le (.agg cs) (.agg ds)
 | opt {T:Type} {p:T->Prop} {y:SV} {x:T->SV} (t:T):p t->(∀t,LF (x t))->Le y (x t)->Le y (.opt p x)
 | cd {cs ds:List SV}:cO cs ds->Le (.cd cs) (.cd ds)
 | sl {T:Type} {sz:Nat} {c:T->List SV} {xs ys:Unit->List T}:xs ()=ys ()->Le (.sl sz c xs) (.sl sz c ys)
 | slm {T T':Type} {sz:Nat} {c:T->List SV} {c':T'->List SV} {xs:Unit->List T} {ys:Unit->List T'}:(xs ()).length=(ys ()).length->(∀x,cj (c' x)) ->
  (∀(j:Nat) (x:T) (y:T'),(xs ())[j]?=some x->(ys ())[j]?=some y->cO (c x) (c' y))->Le (.sl sz c xs) (.sl sz c' ys)
 | cG {T:Type} {sz:Nat} {c:T->List SV} {ys:Unit->List T}:ys ()=[]->(∀x,cj (c x))->Le .cG (.sl sz c ys)
 | dK {T:Type} {cs:List SV} {n sz:Nat} {c:T->List SV} {ys:Unit->List T}:(ys ()).length=n->(∀y∈ys (),(c y).length=sz)->(∀x,cj (c x)) ->
  cO cs ((ys ()).flatMap c)->Le (.dK cs n) (.sl sz c ys)
 | db {cs ds:List SV} {off:Nat}:cO cs ds->Le (.db cs off) (.db ds off)
 | fB {l sz:Nat} {i j:Unit->Nat} {off:Nat}:i ()=j ()->Le (.fB l sz i off) (.fB l sz j off)
 | eA {l sz:Nat} {m n m' n':Unit->Nat}:m ()=m' ()->n ()=n' ()->Le (.eA l sz m n) (.eA l sz m' n')
 | mp {T:Type} {k:KD} {c:T->List SV} {m m':Unit->k.T->Option T}:m ()=m' ()->Le (.mp k c m) (.mp k c m')
 | fC {T:Type} {sz:Nat} {c:T->List SV} {xs ys:Unit->List T}:xs ()=ys ()->Le (.fC sz c xs) (.fC sz c ys)
 | nX {T:Type} {sz:Nat} {c:T->List SV} {xs ys:Unit->List T}:xs ()=ys ()->Le (.fC sz c xs) (.sl sz c ys)
 | ahZ {T:Type} {k:KD} {c:T->List SV} {x:Unit->Value} {m:Unit->k.T->Option T}:x ()=.map none->(∀n,m () n=none)->(∀x,cj (c x))->Le (.v x) (.mp k c m)
 | fn {f:Fn} {cs ds wh Yh:List SV}:cO cs ds->cO wh Yh->Le (.fn f cs wh) (.fn f ds Yh)
inductive cO:List SV->List SV->Prop
 | nil:cO [] []
 | cons {x y:SV} {xs ys:List SV}:Le x y->cO xs ys->cO (x :: xs) (y :: ys)
end
theorem Ba {η:Nat->Value} {q:Nat->Live} {H:aZ} {s s':List SV} {v:List Value} (h:aL η q H (s++s') v) :
  aL η q H s (v.take s.length)/\aL η q H s' (v.drop s.length):=by
 have h1:=Bj h s.length
 have h2:=Bi h s.length
 simp only [Be,List.drop_left] at h1 h2
 exact ⟨h1,h2⟩
theorem yO {η:Nat->Value} {q:Nat->Live} {H:aZ} {T:Type} {c:T->List SV} {sz:Nat} :
  ∀{xs:List T} {v:List Value},(∀x∈xs,(c x).length=sz)->aL η q H (xs.flatMap c) v->∀(j:Nat) (x:T),xs[j]?=some x ->
   aL η q H (c x) ((v.drop (j*sz)).take sz)
 | [],v,_,_,j,x,hx=>by simp at hx
 | y :: r,v,hl,h,j,x,hx=>by
  have hy:(c y).length=sz:=hl y (by simp)
  rw [o6] at h
  obtain ⟨h1,h2⟩:=Ba h
  rw [hy] at h1 h2
  cases j with
  | zero=>simp at hx;subst hx;simpa using h1
  | succ j =>
   have:=yO (λx hx=>hl x (by simp [hx])) h2 j x (by simpa using hx)
   rw [List.drop_drop] at this
   rw [show (j+1)*sz=sz+j*sz by rw [Nat.add_mul];omega]
   exact this
mutual
theorem rS {η:Nat->Value} {q:Nat->Live} {H:aZ}:∀{x y:SV},Le x y->∀{v:Value},rel η q H x v->rel η q H y v
 | _,_,.refl _,_,h=>h
 | _,_,.any _,_,_=>by simp [rel]
 | _,_,.cell h1,_,h=>by simp only [rel];exact vL h1 h
 | _,_,.b e,_,h=>by simp only [rel] at h ⊢;rw [<-e];exact h
 | _,_,.bc e,_,h=>by simp only [rel] at h ⊢;rw [<-e];exact h
 | _,_,.EP e,_,h=>by simp only [rel] at h ⊢;rw [<-e];exact h
 | _,_,.i e,_,h=>by simp only [rel] at h ⊢;rw [<-e];exact h
 | _,_,.ic e,_,h=>by simp only [rel] at h ⊢;rw [<-e];exact h
 | _,_,.ahY e,_,h=>by simp only [rel] at h ⊢;rw [<-e];exact h
 | _,_,.str e,_,h=>by simp only [rel] at h ⊢;rw [<-e];exact h
 | _,_,.v e,_,h=>by simp only [rel] at h ⊢;rw [<-e];exact h
 | _,_,.agg e,_,h=>by
  simp only [rel] at h ⊢
  obtain ⟨vs,h1,h2⟩:=h
  exact ⟨vs,h1,iN e h2⟩
 | _,_,.opt t ht ca e,_,h=>by
  simp only [rel]
  exact ⟨⟨t,ht,rS e h⟩,ca⟩
 | _,_,.cd e,_,h=>by
  simp only [rel] at h ⊢
  obtain ⟨vs,h1,h2⟩:=h
  exact ⟨vs,h1,iN e h2⟩
 | _,_,.sl e,_,h=>by simp only [rel] at h ⊢;rw [<-e];exact h
 | _,_,@Le.slm T T' sz c c' xs ys e1 ca e2,_,h=>by
  simp only [rel] at h ⊢
  obtain ⟨⟨ad,cap,h1,h0,h2⟩,_⟩:=h
  refine ⟨⟨ad,cap,by rw [<-e1];exact h1,by omega,?_⟩,ca⟩
  rcases h2 with h2|⟨a,h3,h4,h5⟩
  ·left;exact gM (by rw [<-e1,h2];rfl)
  ·right
   refine ⟨a,h3,h4,λj y hy=>?_⟩
   have hj:j < (xs ()).length:=by rw [e1];exact (bf.1 hy).1
   obtain ⟨vals,g1,g2,g3⟩:=h5 j _ (eG hj)
   exact ⟨vals,g1,iN (e2 j _ y (eG hj) hy) g2,g3⟩
 | _,_,.cG e ca,_,h=>by simp only [rel] at h ⊢;rw [e];exact ⟨⟨none,0,h,by simp,.inl rfl⟩,ca⟩
 | _,_,@Le.dK T cs n sz c ys e1 e2 ca e3,_,h=>by
  simp only [rel] at h ⊢
  obtain ⟨ad,h1,h2⟩:=h
  refine ⟨⟨ad,n,by rw [e1];exact h1,by omega,?_⟩,ca⟩
  rcases h2 with h2|⟨a,h3,h4,vals,h5,h6⟩
  ·left;exact gM (by omega)
  ·right
   refine ⟨a,h3,h4,λj x hx=>?_⟩
   have h7:=iN e3 h5
   have h8:=yO e2 h7 j x hx
   refine ⟨_,?_,h8,?_⟩
   ·rw [ie h8];exact e2 x (cM hx)
   ·intro i u hu
    rw [kR] at hu
    split at hu
    ·rw [jm] at hu
     have:=h6 _ u hu
     rwa [<-Nat.add_assoc] at this
    ·cases hu
 | _,_,.db e,_,h=>by
  simp only [rel] at h ⊢
  obtain ⟨a,h1,vals,h2,h3⟩:=h
  exact ⟨a,h1,vals,iN e h2,h3⟩
 | _,_,.fB e,_,h=>by simp only [rel] at h ⊢;rw [<-e];exact h
 | _,_,.eA e e',_,h=>by simp only [rel] at h ⊢;rw [<-e,<-e'];exact h
 | _,_,.mp e,_,h=>by simp only [rel] at h ⊢;rw [<-e];exact h
 | _,_,.fC e,_,h=>by simp only [rel] at h ⊢;rw [<-e];exact h
 | _,_,.nX e,_,h=>by
  simp only [rel] at h ⊢
  rw [<-e]
  obtain ⟨⟨ad,h1,h2⟩,ca⟩:=h
  exact ⟨⟨ad,_,h1,fN _,h2⟩,ca⟩
 | _,_,.ahZ e e' ca,_,h=>by simp only [rel] at h ⊢;exact ⟨.inl ⟨h.trans e,e'⟩,ca⟩
 | _,_,.fn e e',_,h=>by
  simp only [rel] at h ⊢
  obtain ⟨fs,cs,h1,h2,h3⟩:=h
  exact ⟨fs,cs,h1,iN e h2,iN e' h3⟩
theorem iN {η:Nat->Value} {q:Nat->Live} {H:aZ}:∀{x y:List SV},cO x y->∀{v:List Value},aL η q H x v->aL η q H y v
 | _,_,.nil,_,h=>h
 | _,_,.cons e r,_,h=>by
  simp only [aL] at h ⊢
  obtain ⟨u,us,h1,h2,h3⟩:=h
  exact ⟨u,us,h1,rS e h2,iN r h3⟩
end
inductive TD where
 | int (k:IntKind)
 | bool
 | str
 | sl (e:TypeId)
 | ptr (e:TypeId)
 | st (fs:List (TypeId × Nat × Nat))
 | arr (n:Nat) (e:TypeId)
 | map (k v:TypeId)
 | other
structure TI where
 d:TD
 size:Nat
 bytes:Nat
 zero:Value
 flat:Bool:=false
 kd:Option (List IntKind):=none
def TI.agg (i:TI):Bool:=match i.d with|.st _|.arr _ _=>true|_=>false
def xD:Value->Value->Bool
 | .bool a,.bool b=>a == b
 | .int k a,.int k' b=>a == b
 | .string a,.string b=>a == b
 | _,_=>false
def pQ:List Value->List Value->Bool
 | a :: as,b :: bs=>xD a b&&pQ as bs
 | _,_=>true
def rP:Value->Value->Bool
 | .bool _,.bool _=>true
 | .int k _,.int k' _=>k == k'
 | .string _,.string _=>true
 | _,_=>false
def nN:List Value->List Value->Bool
 | a :: as,b :: bs=>rP a b&&nN as bs
 | [],[]=>true
 | _,_=>false
structure xE (P:Program) (kt:TypeId) (k:KD):Prop where
 check:∀(n:k.T),k.ok n->∀em w,(Instr.checkKey em 10000 kt (k.enc n)).run P w=.ok () w
 find:∀(n:k.T),k.ok n->∀(es:List MapEntry),(∀e∈es,∃n',k.ok n'/\e.key=k.enc n')->∀w,
  ((Instr.findKey kt (k.enc n) es).run P w=.ok none w/\∀e∈es,e.key≠k.enc n)\/∃j e,(Instr.findKey kt (k.enc n) es).run P w=.ok (some (j,e.val)) w/\es[j]?=some e/\e.key=k.enc n
 stays:∀(n:k.T),k.ok n->∀w,(Instr.keyThatStays (k.enc n) (k.enc n)).run P w=.ok (k.enc n) w
structure kV (P:Program) (t:TypeId) (i:TI):Prop where
 info:∃inf,P.info? t=some inf/\inf.size=i.size/\inf.bytes=i.bytes/\inf.zero=some i.zero
 vP:i.zero.cells.size=i.size
 pos:0 < i.size
 desc:match i.d with
  | .int k=>P.underlying t=some (.int k)
  | .bool=>P.underlying t=some .bool
  | .str=>P.underlying t=some .string
  | .sl e=>P.underlying t=some (.slice e)
  | .ptr e=>P.underlying t=some (.pointer e)
  | .st gs=>∃fs:Array Field,P.underlying t=some (.struct fs)/\fs.size=gs.length /\
    ∀(j:Nat) (f:Field),fs[j]?=some f->∃inf,P.info? f.type=some inf/\inf.size≠0/\gs[j]?=some (f.type,f.offset,inf.size)
  | .arr n e=>P.underlying t=some (.array n e)
  | .map k v=>P.underlying t=some (.map k v)
  | .other=>∃d,P.underlying t=some d/\(∀x,d≠.struct x)/\(∀n e,d≠.array n e)
 flat:i.flat=true->i.agg=true/\∀(vs us:List Value) (w:World),vs.length=i.size->us.length=i.size ->
  nN vs us=true->nN vs i.zero.cells.toList=true->∀op x y,(op=.eql\/op=.neq) ->
  (do eqGuard op t x y (.agg vs.toArray) (.agg us.toArray);binOp op t (.agg vs.toArray) (.agg us.toArray):Sem Value).run P w =
   .ok (.bool (if op=.eql then pQ vs us else !pQ vs us)) w
 key:∀ks,i.kd=some ks->xE P t (.ints ks)
structure gx:Type 1 where
 T:Type
 c:T->List SV
 z:T
structure Spec:Type 1 where
 α:Type
 args:α->List SV
 pre:α->Prop
 res:α->SV
 fr:Bool:=false
structure Ctx:Type 1 where
 tt:TypeId->Option TI
 el:TypeId->Option gx
 sp:FuncId->Option Spec
 inl:FuncId->Option Func
 cut:Nat->Bool:=λ_=>false
 lp:FuncId->Bool:=λ_=>false
 io:FuncId->Bool:=λ_=>false
 row:TypeId->Bool:=λ_=>false
 emp:TypeId->Bool:=λ_=>false
def aZ.gR (H:aZ) (w:World):Prop:=∀b o,H b=some o->w.heap[b]?=some o
structure kF (P:Program) (f:FuncId) (fn:Func):Prop where
 get:P.funcs[f]?=some fn
 body:fn.body.isSome=true
 name : (fn.name == "runtime.NumGoroutine") = false
structure cY (P:Program) (f:FuncId) (S:Spec):Prop where
 fn:∃fn,kF P f fn
 lf:∀a,cj (S.args a)
 lr:∀a,LF (S.res a)
 run:∀a,S.pre a->∀(H F:aZ) (w:World) (vals:List Value),H.gR w->F.gR w->dg H (S.args a) vals ->
  Calls P f vals.toArray w λe w'=>∃v H',e=.returned v/\H.le H'/\H'.gR w'/\F.gR w' /\
   (∀b,H' b≠none->H b≠none\/F b=none)/\n9 H' (S.res a) v/\w'.os=w.os/\w'.tape=w.tape/\w'.output=w.output
 fresh:S.fr=true->∀a,S.pre a->∀(H F:aZ) (w:World) (vals:List Value),H.gR w->F.gR w->dg H (S.args a) vals ->
  Calls P f vals.toArray w λe w'=>∃v N,e=.returned v/\H.gR w'/\F.gR w'/\aZ.gR N w'/\(∀b,N b≠none->H b=none/\F b=none)/\n9 N (S.res a) v /\
   w'.os=w.os/\w'.tape=w.tape/\w'.output=w.output
structure BS (P:Program) (X:Ctx) (t:TypeId) (E:gx):Prop where
 ti:∃i,X.tt t=some i
 len:∀i,X.tt t=some i->∀x,(E.c x).length=i.size
 lf:∀x,cj (E.c x)/\(E.c x).all SV.one=true
 zero:∀i,X.tt t=some i->∀H,dg H (E.c E.z) i.zero.cells.toList
structure Ctx.Ok (P:Program) (X:Ctx):Prop where
 tt:∀t i,X.tt t=some i->kV P t i
 el:∀t E,X.el t=some E->BS P X t E
 sp:∀f S,X.sp f=some S->cY P f S
 inl:∀f fn,X.inl f=some fn->kF P f fn
 mixed:P.follows .mixedOrders=true
def jz:Value->SV
 | .bool c=>.bc c
 | .int k n=>.ic k n
 | .string s=>.str λ_=>s
 | .slice none 0 0=>.cG
 | v=>.v λ_=>v
def wi:Value->SV
 | .agg cs=>.agg (cs.toList.map jz)
 | v=>jz v
def ev (s:St):Operand->SV
 | .tmp t=>(s.t[t]?).getD .any
 | .const v=>wi v
 | .global g=>.v λ_=>.pointer (some ⟨g,0,none⟩)
 | .func f=>.fn (.func f) [] []
def SV.cells?:SV->Option (List SV)
 | .agg cs=>if cs.all SV.one then some cs else none
 | x=>if x.one then some [x] else none
def SV.Cz:SV->Option (Unit->Bool)
 | .bc c=>some λ_=>c
 | .b x=>some x
 | _=>none
def SV.ja:SV->Option (IntKind × (Unit->Int))
 | .ic k n=>some (k,λ_=>n)
 | .i k n=>some (k,n)
 | _=>none
def gP (b:List Slot):Nat->SV->SV
 | 0,x=>x
 | n+1,.own l=>match b[l]? with
  | some (.dyn e sz c xs)=>.sl sz c xs
  | _=>.own l
 | n+1,.eA l sz m k=>match b[l]? with
  | some (.dyn e jb c xs)=>(match Nat.beq sz jb with
   | true=>.sl jb c λ_=>((xs ()).take (k ())).drop (m ())
   | false=>.eA l sz m k)
  | _=>.eA l sz m k
 | n+1,.ptr l off=>match b[l]? with
  | some (.fix e cs)=>.db (cs.map (gP b n)) off
  | _=>.ptr l off
 | n+1,.fA l=>match b[l]? with
  | some (.map k c m)=>.mp k c m
  | _=>.fA l
 | n+1,.fn f xs ys=>.fn f (xs.map (gP b n)) (ys.map (gP b n))
 | n+1,.agg cs=>.agg (cs.map (gP b n))
 | n+1,.cd cs=>.cd (cs.map (gP b n))
 | n+1,x=>x
def view (b:List Slot):SV->SV:=gP b 4
mutual
def SV.scalar:SV->Bool
 | .bc _|.b _|.ic ..|.i ..|.str _=>true
 | .cd cs=>xn cs
 | .agg cs=>xn cs
 | _=>false
def xn:List SV->Bool
 | []=>true
 | x :: r=>x.scalar&&xn r
end
inductive dN:Type 1 where
 | fail
 | pure (x:SV) (u:List (Nat × Slot))
 | l4 (p:Unit->Prop) (x:SV) (u:List (Nat × Slot))
 | ex (T:Type) (p:T->Prop) (x:T->SV) (u:T->List (Nat × Slot))
def dN.K:dN->(SV->List (Nat × Slot)->Prop)->Prop
 | .fail,_=>False
 | .pure x u,k=>k x u
 | .l4 p x u,k=>vY p/\k x u
 | .ex T p x u,k=>∃t,vY (λ_=>p t)/\k (x t) (u t)
def kp (b:List Slot):List (Nat × Slot)->List Slot
 | []=>b
 | (l,x) :: r=>kp (b.set l x) r
def St.iv (s:St) (dst:Option Tmp) (x:SV) (u:List (Nat × Slot)):St :=
 { t:=match dst with|some d=>s.t.set d x|none=>s.t,b:=kp s.b u }
def fk (x y:Int):Bool:=decide (x < y)
def iG (x y:Int):Bool:=decide (x<=y)
def ga (x y:Int):Bool:=x == y
def fH (op:BinOp) (k:IntKind) (x y:Int):Int :=
 k.wrap (match op with
  | .and=>(BitVec.ofInt k.bits x &&& BitVec.ofInt k.bits y).toNat
  | .or=>(BitVec.ofInt k.bits x ||| BitVec.ofInt k.bits y).toNat
  | .xor=>(BitVec.ofInt k.bits x ^^^ BitVec.ofInt k.bits y).toNat
  | _=>(BitVec.ofInt k.bits x &&& ~~~ BitVec.ofInt k.bits y).toNat:Nat)
def I1:SV->SV->Option (Unit->Bool)
 | .bc a,.bc b=>some λ_=>a == b
 | .bc a,.b y=>some λ_=>a == y ()
 | .b x,.bc b=>some λ_=>x () == b
 | .b x,.b y=>some λ_=>x () == y ()
 | .ic k a,.ic k' b=>if k=k' then some λ_=>a == b else none
 | .ic k a,.i k' y=>if k=k' then some λ_=>a == y () else none
 | .i k x,.ic k' b=>if k=k' then some λ_=>x () == b else none
 | .i k x,.i k' y=>if k=k' then some λ_=>x () == y () else none
 | .str x,.str y=>some λ_=>x () == y ()
 | _,_=>none
def xF:List SV->List SV->Option (Unit->Bool)
 | [],[]=>some λ_=>true
 | x :: xs,y :: ys=>match I1 x y,xF xs ys with
  | some f,some g=>some λ_=>f ()&&g ()
  | _,_=>none
 | _,_=>none
def BH (op:BinOp) (k:IntKind) (a b:Int):dN :=
 match op with
 | .add=>.pure (.ic k (k.wrap (a+b))) []
 | .sub=>.pure (.ic k (k.wrap (a - b))) []
 | .mul=>.pure (.ic k (k.wrap (a*b))) []
 | .eql=>.pure (.bc (ga a b)) []
 | .neq=>.pure (.bc (!ga a b)) []
 | .lss=>.pure (.bc (fk a b)) []
 | .leq=>.pure (.bc (iG a b)) []
 | .gtr=>.pure (.bc (fk b a)) []
 | .geq=>.pure (.bc (iG b a)) []
 | _=>.fail
def xx (op:BinOp) (k:IntKind) (x y:Unit->Int):dN :=
 match op with
 | .add=>.pure (.i k λ_=>k.wrap (x ()+y ())) []
 | .sub=>.pure (.i k λ_=>k.wrap (x () - y ())) []
 | .mul=>.pure (.i k λ_=>k.wrap (x ()*y ())) []
 | .quo=>.l4 (λ_=>y ()≠0) (.i k λ_=>k.wrap ((x ()).tdiv (y ()))) []
 | .rem=>.l4 (λ_=>y ()≠0) (.i k λ_=>(x ()).tmod (y ())) []
 | .and=>.pure (.i k λ_=>fH .and k (x ()) (y ())) []
 | .or=>.pure (.i k λ_=>fH .or k (x ()) (y ())) []
 | .xor=>.pure (.i k λ_=>fH .xor k (x ()) (y ())) []
 | .andNot=>.pure (.i k λ_=>fH .andNot k (x ()) (y ())) []
 | .eql=>.pure (.b λ_=>ga (x ()) (y ())) []
 | .neq=>.pure (.b λ_=>!ga (x ()) (y ())) []
 | .lss=>.pure (.b λ_=>fk (x ()) (y ())) []
 | .leq=>.pure (.b λ_=>iG (x ()) (y ())) []
 | .gtr=>.pure (.b λ_=>fk (y ()) (x ())) []
 | .geq=>.pure (.b λ_=>iG (y ()) (x ())) []
 | _=>.fail
def uv (x y:ByteArray):Bool:=Op.bytesLess x.toList y.toList
def uD (x y:ByteArray):Bool:=x.toList == y.toList
def ze:BinOp->Bool
 | .shl|.shr=>true
 | _=>false
def aee:BinOp->Bool
 | .add|.sub|.mul|.eql|.neq|.lss|.leq|.gtr|.geq=>true
 | _=>false
def MS:SV->SV->Option (Unit->Prop)
 | .sl sz c xs,.cG=>some λ_=>xs ()=[]
 | .cG,.sl sz c xs=>some λ_=>xs ()=[]
 | .own _,.cG=>some λ_=>True
 | .cG,.own _=>some λ_=>True
 | _,_=>none
def MT:SV->SV->Option (Bool × (Unit->Prop))
 | .v a,.v b=>some (true,λ_=>a ()=.map none/\b ()=.map none)
 | .mp k c m,.v b=>some (false,λ_=>b ()=.map none/\∃n,m () n≠none)
 | .v a,.mp k c m=>some (false,λ_=>a ()=.map none/\∃n,m () n≠none)
 | _,_=>none
def I4 (
     X:Ctx) (op:BinOp) (t:TypeId) (x y:SV):dN :=
 match ze op with
 | true=>match x.ja,y.ja with
  | some (k,m),some (_,n) =>
   .l4 (λ_=>0<=n ()) (.i k λ_=>match op with
    | .shl=>k.wrap (m ()*2^(min (n ()).toNat k.bits))
    | _=>(m ()).fdiv (2^(min (n ()).toNat k.bits))) []
  | _,_=>.fail
 | false=>match aee op,x,y with
  | true,.ic k a,.ic k' b=>if k=k' then BH op k a b else .fail
  | _,x,y=>match x.ja,y.ja with
   | some (k,m),some (k',n)=>if k=k' then xx op k m n else .fail
   | _,_ =>
        match x,y with
    | .str m,.str n=>match op with
     | .add=>.l4 (λ_=>(m ()).size+(n ()).size < 9223372036854775808) (.str λ_=>m ()++n ()) []
     | .eql=>.pure (.b λ_=>uD (m ()) (n ())) []
     | .neq=>.pure (.b λ_=>!uD (m ()) (n ())) []
     | .lss=>.pure (.b λ_=>uv (m ()) (n ())) []
     | .leq=>.pure (.b λ_=>uv (m ()) (n ())||uD (m ()) (n ())) []
     | .gtr=>.pure (.b λ_=>!(uv (m ()) (n ())||uD (m ()) (n ()))) []
     | .geq=>.pure (.b λ_=>!uv (m ()) (n ())) []
     | _=>.fail
    | .agg cs,.agg ds=>match X.tt t with
     | some i=>if i.flat&&cs.length == i.size&&ds.length == i.size then match xF cs ds,xF cs (i.zero.cells.toList.map jz) with
       | some f,some _=>match op with
        | .eql=>.pure (.b f) []
        | .neq=>.pure (.b λ_=>!f ()) []
        | _=>.fail
       | _,_=>.fail
      else .fail
     | none=>.fail
    | x,y=>match X.tt t with
     | some i=>match i.d with
      | .bool=>match I1 x y,x.Cz,y.Cz with
       | some f,some _,some _=>match op with
        | .eql=>.pure (.b f) []
        | .neq=>.pure (.b λ_=>!f ()) []
        | _=>.fail
       | _,_,_=>.fail
      | .map _ _=>match MT x y with
       | some (d,p)=>match op with
        | .eql=>.l4 p (.bc d) []
        | .neq=>.l4 p (.bc (!d)) []
        | _=>.fail
       | none=>.fail
      | .sl _=>match MS x y with
       | some p=>match op with
        | .eql=>.pure (.nb true p) []
        | .neq=>.pure (.nb false p) []
        | _=>.fail
       | none=>match x,y,op with
        | .cG,.cG,.eql=>.pure (.bc true) []
        | .cG,.cG,.neq=>.pure (.bc false) []
        | _,_,_=>.fail
      | _=>.fail
     | none=>.fail
def JE (op:UnOp) (x:SV):dN :=
 match op,x with
 | .not,.bc c=>.pure (.bc (!c)) []
 | .not,.b x=>.pure (.b λ_=>!x ()) []
 | .not,.nb d p=>.pure (.nb (!d) p) []
 | .neg,.ic k n=>.pure (.ic k (k.wrap (0 - n))) []
 | .neg,.i k n=>.pure (.i k λ_=>k.wrap (0 - n ())) []
 | .xor,.i k n=>match k.signed with
  | true=>.pure (.i k λ_=>fH .xor k (-1) (n ())) []
  | false=>.fail
 | _,_=>.fail
def IA (c a b:SV):dN :=
 match c with
 | .bc true=>.pure a []
 | .bc false=>.pure b []
 | .b x=>match a.Cz,b.Cz with
  | some f,some g=>.pure (.b λ_=>if x () then f () else g ()) []
  | _,_=>.fail
 | _=>.fail
def IB (X:Ctx) (src dst:TypeId) (x:SV):dN :=
 match X.tt src,X.tt dst with
 | some i,some j=>match j.d,x with
  | .int k,.ic _ n=>.pure (.ic k (k.wrap n)) []
  | .int k,.i _ n=>.pure (.i k λ_=>k.wrap (n ())) []
  | .str,.str x=>.pure (.str x) []
  | _,_=>.fail
 | _,_=>.fail
def rU (i:TI) (cs:List SV) (off:Nat):Option SV :=
 if off+i.size<=cs.length then
  if i.agg then some (.agg ((cs.drop off).take i.size)) else cs[off]?
 else none
def zw (X:Ctx) (b:List Slot) (t:TypeId) (x:SV):dN :=
 match X.tt t with
 | none=>.fail
 | some i=>match x with
  | .ptr l off=>match b[l]? with
   | some (.fix e cs)=>match rU i cs off with
    | some v=>.pure v []
    | none=>.fail
   | _=>.fail
  | .db cs off=>match rU i cs off with
   | some v=>.pure v []
   | none=>.fail
  | .fB l sz j off=>match b[l]? with
   | some (@Slot.dyn T e jb c xs)=>if sz=jb then
     .ex T (λx=>(xs ())[j ()]?=some x/\(rU i (c x) off).isSome=true) (λx=>(rU i (c x) off).getD .any) (λ_=>[])
    else .fail
   | _=>.fail
  | _=>.fail
def putCells:List SV->Nat->List SV->List SV
 | cs,_,[]=>cs
 | cs,o,x :: xs=>putCells (cs.set o x) (o+1) xs
def xy (
      X:Ctx) (b:List Slot) (t:TypeId) (x y:SV):dN :=
 match X.tt t,y.cells? with
 | some i,some ys=>if ys.length=i.size then match x with
  | .ptr l off=>match b[l]? with
   | some (.fix e cs)=>if off+i.size<=cs.length then .pure .any [(l,.fix e (putCells cs off ys))] else .fail
   | _=>.fail
  | .fB l sz j off=>match b[l]? with
   | some (@Slot.dyn T e jb c xs)=>if sz=jb/\off+i.size<=sz then
     .ex (T × T) (λp=>(xs ())[j ()]?=some p.1/\(c p.2).length=sz/\cO (putCells (c p.1) off ys) (c p.2)) (λ_=>.any)
      (λp=>[(l,.dyn e jb c λ_=>(xs ()).set (j ()) p.2)])
    else .fail
   | _=>.fail
  | _=>.fail
  else .fail
 | _,_=>.fail
def Du (X:Ctx) (t:TypeId) (x:SV) (j:Nat):dN :=
 match X.tt t with
 | some i=>match i.d with
  | .st fs=>match fs[j]? with
   | some (_,o,_)=>match x with
    | .ptr l off=>.pure (.ptr l (off+o)) []
    | .db cs off=>.pure (.db cs (off+o)) []
    | .fB l sz k off=>.pure (.fB l sz k (off+o)) []
    | _=>.fail
   | none=>.fail
  | _=>.fail
 | none=>.fail
def wW (X:Ctx) (b:List Slot) (t:TypeId) (x ix:SV):dN :=
 match X.tt t with
 | none=>.fail
 | some i =>
       match i.d with
  | .arr n e=>match X.tt e,ix with
   | some j,.ic k m=>if 0<=m/\m.toNat < n then match x with
    | .ptr l off=>.pure (.ptr l (off+m.toNat*j.size)) []
    | .db cs off=>.pure (.db cs (off+m.toNat*j.size)) []
    | .fB l sz p off=>.pure (.fB l sz p (off+m.toNat*j.size)) []
    | _=>.fail
    else .fail
   | some j,.i k m=>(match x with
    | .ptr l off=>.ex Nat (λg=>m ()=(g:Int)/\g < n) (λg=>.ptr l (off+g*j.size)) (λ_=>[])
    | .db cs off=>.ex Nat (λg=>m ()=(g:Int)/\g < n) (λg=>.db cs (off+g*j.size)) (λ_=>[])
    | .fB l sz p off=>.ex Nat (λg=>m ()=(g:Int)/\g < n) (λg=>.fB l sz p (off+g*j.size)) (λ_=>[])
    | _=>.fail)
   | _,_=>.fail
  | .sl e=>match X.tt e,ix.ja with
   | some j,some (k,m)=>match x with
    | @SV.sl T sz c xs=>if sz=j.size then
      .ex T (λy=>0<=m ()/\(xs ())[(m ()).toNat]?=some y) (λy=>.db (c y) 0) (λ_=>[])
     else .fail
    | .own l=>match b[l]? with
     | some (.dyn e' sz c xs)=>if sz=j.size then
       .l4 (λ_=>0<=m ()/\(m ()).toNat < (xs ()).length) (.fB l sz (λ_=>(m ()).toNat) 0) []
      else .fail
     | _=>.fail
    | .eA l sz g h=>match b[l]? with
     | some (.dyn e' jb c xs)=>if sz=j.size then
       .l4 (λ_=>0<=m ()/\(m ()).toNat < h () - g ()) (.fB l sz (λ_=>g ()+(m ()).toNat) 0) []
      else .fail
     | _=>.fail
    | .dK cs n=>match ix with
     | .ic _ m=>if 0<=m/\m.toNat < n/\cs.length=n*j.size then .pure (.db ((cs.drop (m.toNat*j.size)).take j.size) 0) [] else .fail
     | .i _ m=>match X.el e with
      | some E=>.ex (E.T × List E.T) (λy=>cO cs (y.2.flatMap E.c)/\y.2.length=n/\0<=m ()/\y.2[(m ()).toNat]?=some y.1) (λy=>.db (E.c y.1) 0) (λ_=>[])
      | none=>.fail
     | _=>.fail
    | _=>.fail
   | _,_=>.fail
  | _=>.fail
def HU (X:Ctx) (t:TypeId) (x ix:SV):dN :=
 match X.tt t with
 | none=>.fail
 | some i=>match i.d,x with
  | .str,.str s=>match ix.ja with
   | some (k,m)=>.l4 (λ_=>0<=m ()/\(m ()).toNat < (s ()).size) (.i .u8 λ_=>((s ()).data.toList.getD (m ()).toNat 0).toNat) []
   | none=>.fail
  | .arr n e,.agg cs=>match X.tt e,ix with
   | some j,.ic k m=>if 0<=m/\m.toNat < n/\n*j.size=cs.length then match rU j cs (m.toNat*j.size) with
     | some v=>.pure v []
     | none=>.fail
    else .fail
   | some j,.i k m=>if n*j.size=cs.length then
     .ex Nat (λg=>m ()=(g:Int)/\g < n/\(rU j cs (g*j.size)).isSome=true) (λg=>(rU j cs (g*j.size)).getD .any) (λ_=>[])
    else .fail
   | _,_=>.fail
  | _,_=>.fail
def zx (place:Nat->Option (Nat × Nat)):List (Nat × SV)->List SV->Option (List SV)
 | [],cs=>some cs
 | (j,x) :: r,cs=>match place j,x.cells? with
  | some (off,size),some ys=>if ys.length=size/\off+ys.length<=cs.length then zx place r (putCells cs off ys) else none
  | _,_=>none
def HV (X:Ctx) (t:TypeId) (parts:List (Nat × SV)):dN :=
 match X.tt t with
 | none=>.fail
 | some i=>match i.d with
  | .st fs=>match zx (λj=>(fs[j]?).map (·.2)) parts (i.zero.cells.toList.map jz) with
   | some cs=>.pure (.agg cs) []
   | none=>.fail
  | .arr n e=>match X.tt e with
   | some k=>match zx (λj=>some (j*k.size,k.size)) parts (i.zero.cells.toList.map jz) with
    | some cs=>.pure (.agg cs) []
    | none=>.fail
   | none=>.fail
  | _=>.fail
def r6 {α:Type 1} (xs:List α):Nat->List α
 | 0=>[]
 | n+1=>xs++r6 xs n
def Ds (X:Ctx) (l:Nat) (t:TypeId) (n:Nat) (parts:List (Nat × SV)):dN :=
 match X.tt t with
 | none=>.fail
 | some i =>
       match i.d with
  | .sl e=>match X.tt e with
   | none=>.fail
   | some k=>match n with
    | 0=>match parts,X.el e with
     | [],some E=>match X.emp t with
      | false=>.pure (.own l) [(l,.dyn e k.size E.c λ_=>[])]
      | true=>.pure (.sl k.size E.c λ_=>[]) []
     | _,_=>.fail
    | n+1=>if (n+1)*k.size<=16777216 then
      match zx (λj=>some (j*k.size,k.size)) parts (r6 (k.zero.cells.toList.map jz) (n+1)) with
      | some cs=>match X.row t with
       | false=>.pure (.dK cs (n+1)) []
       | true=>match X.el e with
        | some E=>.ex (List E.T) (λys=>cO cs (ys.flatMap E.c)/\ys.length=n+1) (λ_=>.own l) (λys=>[(l,.dyn e k.size E.c λ_=>ys)])
        | none=>.fail
      | none=>.fail
     else .fail
  | _=>.fail
def Dv (X:Ctx) (l:Nat) (t:TypeId) (len cap:SV):dN :=
 match X.tt t with
 | none=>.fail
 | some i=>match i.d with
  | .sl e=>match X.tt e,X.el e,len.ja,cap.ja with
   | some k,some E,some (_,n),some (_,m) =>
    .l4 (λ_=>0<=n ()/\n ()<=m ()/\(k.bytes:Int)*m ()<=281474976710656/\m ()<=9223372036854775807) (.own l)
     [(l,.dyn e k.size E.c λ_=>List.replicate (n ()).toNat E.z)]
   | _,_,_,_=>.fail
  | _=>.fail
def top (b:List Slot):SV->SV
 | .own l=>match b[l]? with
  | some (.dyn e sz c xs)=>.sl sz c xs
  | _=>.own l
 | .eA l sz m k=>match b[l]? with
  | some (.dyn e jb c xs)=>(match Nat.beq sz jb with
   | true=>.sl jb c λ_=>((xs ()).take (k ())).drop (m ())
   | false=>.eA l sz m k)
  | _=>.eA l sz m k
 | x=>x
def xG (X:Ctx) (b:List Slot) (t:TypeId) (s x:SV):dN :=
 match X.tt t with
 | none=>.fail
 | some i =>
       match i.d with
  | .sl e=>match X.tt e,s with
   | some k,.own l0=>match b[l0]? with
    | some (@Slot.dyn T e' sz c xs)=>if e'=e/\sz=k.size/\sz=1 then
      .ex (List T) (λys=>Le (top b x) (.sl sz c λ_=>ys)) (λys=>.i .i64 λ_=>((min (xs ()).length ys.length:Nat):Int))
       (λys=>[(l0,.dyn e sz c λ_=>ys.take (xs ()).length++(xs ()).drop ys.length)])
     else .fail
    | _=>.fail
   | _,_=>.fail
  | _=>.fail
def xz (
      X:Ctx) (b:List Slot) (t:TypeId) (x:SV):dN :=
 match X.tt t with
 | none=>.fail
 | some i =>
       match i.d with
  | .sl e=>match X.tt e,x with
   | some k,.eA l0 sz g h=>match b[l0]? with
    | some (@Slot.dyn T e' jb c xs)=>if e'=e/\jb=k.size/\sz=1/\k.size=1/\k.agg=false then
      .ex T (λz=>cO (k.zero.cells.toList.map jz) (c z)) (λ_=>.cd [])
       (λz=>[(l0,.dyn e jb c λ_=>(xs ()).take (g ())++List.replicate (h () - g ()) z++(xs ()).drop (g ()+(h () - g ())))])
     else .fail
    | _=>.fail
   | _,_=>.fail
  | _=>.fail
def CA (g:Int->Int->Int) (x y:SV):dN :=
 match x.ja,y.ja with
 | some (k,m),some (k',n)=>if k=k' then .pure (.i k λ_=>g (m ()) (n ())) [] else .fail
 | _,_=>.fail
def B6 (g:Int->Int->Int) (x y z:SV):dN :=
 match x.ja,y.ja,z.ja with
 | some (k,m),some (k',n),some (Yi,p)=>if k=k'/\k=Yi then .pure (.i k λ_=>g (g (m ()) (n ())) (p ())) [] else .fail
 | _,_,_=>.fail
def vJ (X:Ctx) (b:List Slot) (l:Nat) (t:TypeId) (s x:SV):dN :=
 match X.tt t with
 | none=>.fail
 | some i =>
       match i.d with
  | .sl e=>match X.tt e with
   | none=>.fail
   | some k=>match s with
    | .own l0=>match b[l0]? with
     | some (@Slot.dyn T e' sz c xs)=>if e'=e/\sz=k.size then
       .ex (List T) (λys=>Le (top b x) (.sl sz c λ_=>ys)/\((xs ()).length+ys.length)*k.bytes<=140737488355328/\(xs ()).length+ys.length<=9223372036854775807)
        (λ_=>.own l) (λys=>[(l0,.dead),(l,.dyn e sz c λ_=>xs ()++ys)])
      else .fail
     | _=>.fail
    | .eA l0 Ae g n=>match b[l0]? with
     | some (@Slot.dyn T e' sz c xs)=>if e'=e/\sz=k.size/\Ae=k.size then
       .ex (List T) (λys=>(g ()=0/\n ()<=(xs ()).length)/\Le (top b x) (.sl sz c λ_=>ys)/\(n ()+ys.length)*k.bytes<=140737488355328/\n ()+ys.length<=9223372036854775807)
        (λ_=>.own l) (λys=>[(l0,.dead),(l,.dyn e sz c λ_=>(xs ()).take (n ())++ys)])
      else .fail
     | _=>.fail
    | .cG=>match X.el e with
     | some E=>.ex (List E.T) (λys=>Le (top b x) (.sl k.size E.c λ_=>ys)/\ys.length*k.bytes<=140737488355328/\ys.length<=9223372036854775807)
        (λ_=>.own l) (λys=>[(l,.dyn e k.size E.c λ_=>ys)])
     | none=>.fail
    | @SV.fC T sz c xs=>if sz=k.size then
      .ex (List T) (λys=>Le (top b x) (.sl sz c λ_=>ys)/\((xs ()).length+ys.length)*k.bytes<=140737488355328/\(xs ()).length+ys.length<=9223372036854775807/\ys≠[]/\∀z,(c z).all SV.one=true)
       (λ_=>.own l) (λys=>[(l,.dyn e sz c λ_=>xs ()++ys)])
     else .fail
    | .dK cs (n+1)=>match X.el e,x with
     | some E,.dK ds (m+1)=>.ex (List E.T × List E.T) (λy=>cO cs (y.1.flatMap E.c)/\y.1.length=n+1/\cO ds (y.2.flatMap E.c)/\y.2.length=m+1 /\
        (n+1+(m+1))*k.bytes<=140737488355328/\n+1+(m+1)<=9223372036854775807)
       (λ_=>.own l) (λy=>[(l,.dyn e k.size E.c λ_=>y.1++y.2)])
     | _,_=>.fail
    | _=>.fail
  | _=>.fail
def vF (
       X:Ctx) (b:List Slot) (l:Nat) (t t':TypeId) (s x:SV):dN :=
 match s with
 | .cG=>match X.tt t,X.tt t',x.ja with
  | some i,some i',some (k',n)=>match i.d,i'.d with
   | .sl e,.int _=>match X.tt e,X.el e with
    | some k,some E=>if k.size=1/\k'=.i64 then
      .ex (List E.T) (λys=>(ys.length:Int)=n ()/\(∀y∈ys,cO (k.zero.cells.toList.map jz) (E.c y))/\ys.length*k.bytes<=140737488355328/\ys.length<=9223372036854775807)
       (λ_=>.own l) (λys=>[(l,.dyn e k.size E.c λ_=>ys)])
     else .fail
    | _,_=>.fail
   | _,_=>.fail
  | _,_,_=>.fail
 | .own l0=>match b[l0]? with
  | some (
      @Slot.dyn T e' sz c xs)=>match X.tt t,X.tt t',x.ja with
   | some i,some i',some (k',n)=>match i.d,i'.d with
    | .sl e,.int _=>match X.tt e with
     | some k=>if e'=e/\sz=k.size/\k.size=1/\k'=.i64 then
       .ex (List T) (λys=>(ys.length:Int)=n ()/\(∀y∈ys,cO (k.zero.cells.toList.map jz) (c y))/\((xs ()).length+ys.length)*k.bytes<=140737488355328/\(xs ()).length+ys.length<=9223372036854775807)
        (λ_=>.own l) (λys=>[(l0,.dead),(l,.dyn e sz c λ_=>xs ()++ys)])
      else .fail
     | none=>.fail
    | _,_=>.fail
   | _,_,_=>.fail
  | _=>.fail
 | _=>.fail
def bound (len:Unit->Nat):Option SV->Option (Unit->Int)
 | none=>some λ_=>len ()
 | some x=>match x.ja with
  | some (_,n)=>some n
  | none=>none
def lower:Option SV->Option (Unit->Int)
 | none=>some λ_=>0
 | some x=>match x.ja with
  | some (_,n)=>some n
  | none=>none
def W4:SV->Bool
 | .cG|.own _|.dK ..|.sl ..=>true
 | _=>false
def clip:Option SV->Option SV->Option SV->Bool
 | none,some (.ic _ 0),some (.ic _ 0)=>true
 | _,_,_=>false
def xA (
      X:Ctx) (b:List Slot) (l:Nat) (t:TypeId) (x:SV) (lo hi mx:Option SV):dN :=
 match X.tt t with
 | none=>.fail
 | some i =>
       match i.d with
  | .sl e=>match X.tt e with
   | none=>.fail
   | some k =>
         if clip lo hi mx&&W4 x then
     match X.el e with
     | some E=>.pure (.own l) [(l,.dyn e k.size E.c λ_=>[])]
     | none=>.fail
    else match x,mx with
     | @SV.sl T sz c xs,some z=>if sz=k.size then
       match lo,hi.bind SV.ja,z.ja with
       | none,some (_,n),some (_,m)=>.l4 (λ_=>n ()=(xs ()).length/\m ()=(xs ()).length) (.fC sz c xs) []
       | _,_,_=>.fail
      else .fail
     | @SV.sl T sz c xs,none=>if sz=k.size then
       match lower lo,bound (λ_=>(xs ()).length) hi with
       | some m,some n=>.l4 (λ_=>0<=m ()/\m ()<=n ()/\n ()<=(xs ()).length) (.sl sz c λ_=>((xs ()).take (n ()).toNat).drop (m ()).toNat) []
       | _,_=>.fail
      else .fail
     | .own l0,none=>match b[l0]? with
      | some (.dyn e' sz c xs)=>if sz=k.size then
        match lower lo,bound (λ_=>(xs ()).length) hi with
        | some m,some n=>.l4 (λ_=>0<=m ()/\m ()<=n ()/\n ()<=(xs ()).length) (.eA l0 k.size (λ_=>(m ()).toNat) (λ_=>(n ()).toNat)) []
        | _,_=>.fail
       else .fail
      | _=>.fail
     | .eA l0 sz g h,none=>match b[l0]? with
      | some (.dyn e' jb c xs)=>if sz=k.size then
        match lower lo,bound (λ_=>h () - g ()) hi with
        | some m,some n=>.l4 (λ_=>0<=m ()/\m ()<=n ()/\(n ()).toNat<=h () - g ()) (.eA l0 k.size (λ_=>g ()+(m ()).toNat) (λ_=>g ()+(n ()).toNat)) []
        | _,_=>.fail
       else .fail
      | _=>.fail
     | .cG,none=>match lo,hi with
      | none,some (.ic _ 0)=>.pure .cG []
      | _,_=>.fail
     | .dK cs n,none=>match X.el e with
      | some E=>match lower lo,bound (λ_=>n) hi with
       | some m,some h=>.ex (List E.T) (λl=>l.length=n/\cO cs (l.flatMap E.c)/\0<=m ()/\m ()<=h ()/\h ()<=n)
         (λl=>.sl k.size E.c λ_=>(l.take (h ()).toNat).drop (m ()).toNat) (λ_=>[])
       | _,_=>.fail
      | none=>.fail
     | _,_=>.fail
  | .str=>match x,mx with
   | .str s,none=>match lower lo,bound (λ_=>(s ()).size) hi with
    | some m,some n=>.l4 (λ_=>0<=m ()/\m ()<=n ()/\n ()<=(s ()).size) (.str λ_=>(s ()).extract (m ()).toNat (n ()).toNat) []
    | _,_=>.fail
   | _,_=>.fail
  | .arr n e=>match X.tt e,X.el e with
   | some k,some E=>match x,mx with
    | .db cs off,none=>match lower lo,bound (λ_=>n) hi with
     | some m,some h=>.ex (List E.T) (λl=>l.length=n/\cO ((cs.drop off).take (n*k.size)) (l.flatMap E.c)/\0<=m ()/\m ()<=h ()/\h ()<=n)
       (λl=>.sl k.size E.c λ_=>(l.take (h ()).toNat).drop (m ()).toNat) (λ_=>[])
     | _,_=>.fail
    | _,_=>.fail
   | _,_=>.fail
  | _=>.fail
def zL (X:Ctx) (b:List Slot) (t:TypeId) (x:SV):dN :=
 match X.tt t with
 | none=>.fail
 | some i=>match i.d,x with
  | .str,.str s=>.pure (.i .i64 λ_=>(s ()).size) []
  | .arr n _,_=>.pure (.ic .i64 n) []
  | .sl _,.cG=>.pure (.ic .i64 0) []
  | .sl _,.dK _ n=>.pure (.ic .i64 n) []
  | .sl _,.sl sz c xs=>.pure (.i .i64 λ_=>(xs ()).length) []
  | .sl _,.fC sz c xs=>.pure (.i .i64 λ_=>(xs ()).length) []
  | .sl _,.own l=>match b[l]? with
   | some (.dyn e sz c xs)=>.pure (.i .i64 λ_=>(xs ()).length) []
   | _=>.fail
  | .sl _,.eA l sz m k=>match b[l]? with
   | some (.dyn e jb c xs)=>.pure (.i .i64 λ_=>((k () - m ():Nat):Int)) []
   | _=>.fail
  | .map _ _,.mp k c m=>.ex (List k.T) (λks=>ks.Nodup/\∀n,n∈ks↔(m () n).isSome=true) (λks=>.i .i64 λ_=>ks.length) (λ_=>[])
  | .map _ _,.fA l=>match b[l]? with
   | some (.map k c m)=>.ex (List k.T) (λks=>ks.Nodup/\∀n,n∈ks↔(m () n).isSome=true) (λks=>.i .i64 λ_=>ks.length) (λ_=>[])
   | _=>.fail
  | _,_=>.fail
def I5 (X:Ctx) (t:TypeId) (x:SV):dN :=
 match X.tt t with
 | none=>.fail
 | some i=>match i.d,x with
  | .sl _,.cG=>.pure (.ic .i64 0) []
  | _,_=>.fail
def HW (X:Ctx) (t:TypeId) (x:SV) (j:Nat):dN :=
 match X.tt t,x with
 | some i,.agg cs=>match i.d with
  | .st fs=>match fs[j]? with
   | some (ft,o,_)=>match X.tt ft with
    | some k=>match rU k cs o with
     | some v=>.pure v []
     | none=>.fail
    | none=>.fail
   | none=>.fail
  | _=>.fail
 | _,_=>.fail
def U7 (X:Ctx) (vt:TypeId) (vi:TI):Option (Σ T:Type,T->List SV):=match vi.d with
 | .bool=>some ⟨Unit,λ_=>[.bc true]⟩
 | _=>match X.el vt with
  | some E=>match vi.agg with
   | true=>some ⟨E.T,λt=>[.agg (E.c t)]⟩
   | false=>some ⟨E.T,E.c⟩
  | none=>none
def TI.key (i:TI):Option KD:=match i.d with
 | .int k=>some (.int k)
 | _=>match i.kd with
  | some ks=>some (.ints ks)
  | none=>none
def zM:List IntKind->List SV->Option (Unit->List Int)
 | [],[]=>some λ_=>[]
 | k :: ks,x :: xs=>match x.ja,zM ks xs with
  | some (k',n),some f=>if k'=k then some (λ_=>n () :: f ()) else none
  | _,_=>none
 | _,_=>none
def KD.key:(k:KD)->SV->Option (Unit->k.T)
 | .int k,x=>match x.ja with
  | some (k',n)=>if k'=k then some n else none
  | none=>none
 | .ints ks,.agg cs=>zM ks cs
 | .ints _,_=>none
def ER:Nat->List IntKind->List Int->List SV
 | _,[],_=>[]
 | j,k :: ks,l=>.i k (λ_=>l.getD j 0) :: ER (j+1) ks l
def KD.sv:(k:KD)->k.T->SV
 | .int k,n=>.i k (λ_=>n)
 | .ints ks,l=>.agg (ER 0 ks l)
def DY (X:Ctx) (l:Nat) (t:TypeId):dN :=
 match X.tt t with
 | none=>.fail
 | some i=>match i.d with
  | .map kt vt=>match X.tt kt,X.tt vt with
   | some ki,some vi=>match ki.key,U7 X vt vi with
    | some k,some E=>.pure (.fA l) [(l,.map k E.2 λ_ _=>none)]
    | _,_=>.fail
   | _,_=>.fail
  | _=>.fail
def HK {T:Type} (z:Value) (c:T->List SV) (b:Unit->Bool):Option (Option T)->SV
 | none=>.b b
 | some (some t)=>(c t).headD .any
 | some none=>wi z
def Eo {T:Type} (b:Unit->Bool):Option (Option T)->SV
 | none=>.b b
 | some (some _)=>.bc true
 | some none=>.bc false
def Wc {T:Type} (z:Value) (c:T->List SV) (r:Option T):Option (Option T)->Prop
 | none=>z=.bool false/\∀t,c t=[.bc true]
 | some o=>r=o
def MU {T K:Type} (z:Value) (c:T->List SV) (m:Unit->K->Option T) (n:Unit->K) (ok:Bool):dN :=
 .ex (Option (Option T)) (λo=>Wc z c (m () (n ())) o)
  (λo=>match ok with
   | true=>.cd [HK z c (λ_=>(m () (n ())).isSome) o,Eo (λ_=>(m () (n ())).isSome) o]
   | false=>HK z c (λ_=>(m () (n ())).isSome) o) (λ_=>[])
def zf (X:Ctx) (b:List Slot) (t:TypeId) (x ix:SV) (ok:Bool):dN :=
 match X.tt t with
 | none=>.fail
 | some i =>
       match i.d with
  | .map kt vt=>match X.tt kt,X.tt vt with
   | some ki,some vi=>match ki.key with
    | some kk=>match x with
     | .mp k c m=>if k=kk then match k.key ix with
       | some n=>MU vi.zero c m n ok
       | none=>.fail
      else .fail
     | .fA l=>match b[l]? with
      | some (.map k c m)=>if k=kk then match k.key ix with
        | some n=>MU vi.zero c m n ok
        | none=>.fail
       else .fail
      | _=>.fail
     | .v x=>match kk.key ix with
      | some n=>.ex Unit (λ_=>x ()=.map none) (λ_=>match ok with|true=>.cd [wi vi.zero,.bc false]|false=>wi vi.zero) (λ_=>[])
      | none=>.fail
     | _=>.fail
    | none=>.fail
   | _,_=>.fail
  | _=>.fail
def vy (
        X:Ctx) (b:List Slot) (t:TypeId) (x ix y:SV):dN :=
 match X.tt t with
 | none=>.fail
 | some i =>
       match i.d with
  | .map kt vt=>match X.tt kt with
   | some ki=>match ki.key with
    | some kk=>match x with
     | .fA l=>match b[l]? with
      | some (@Slot.map T k c m)=>if k=kk then match k.key ix with
        | some n=>.ex T (λt=>cO [y] (c t)) (λ_=>.any) (λt=>[(l,.map k c λ_=>k.iv (m ()) (n ()) t)])
        | none=>.fail
       else .fail
      | _=>.fail
     | _=>.fail
    | none=>.fail
   | none=>.fail
  | _=>.fail
def zl (b:List Slot) (x:SV):dN :=
 match x with
 | .ptr l 0=>match b[l]? with
  | some (.iter k c m seen (some (n,t)))=>.pure (.cd (k.sv n :: c t)) []
  | _=>.fail
 | _=>.fail
def Ep (X:Ctx) (l:Nat) (t:TypeId) (x:SV):dN :=
 match X.tt t with
 | none=>.fail
 | some i=>match i.d,x with
  | .map _ _,.mp k c m=>.pure (.ptr l 0) [(l,.iter k c m (λ_=>[]) none)]
  | _,_=>.fail
def SV.gK:SV->Bool
 | .ptr ..|.fB ..|.own _|.eA ..|.fA _|.fI _=>true
 | .agg cs=>cs.any λ|.ptr ..|.fB ..|.own _|.eA ..|.fA _|.fI _=>true|.fn ..|.k7 ..|.agg _|.cd _|.db ..|.dK ..=>true|_=>false
 | .cd _|.fn ..|.k7 ..|.db ..|.dK ..=>true
 | _=>false
mutual
def SV.lb:SV->Bool
 | .ptr ..|.fB ..|.own _|.eA ..|.fA _|.fI _=>true
 | .fn _ xs ys=>pn xs||pn ys
 | .agg cs=>pn cs
 | .cd cs=>pn cs
 | .dK cs _=>pn cs
 | .db cs _=>pn cs
 | _=>false
def pn:List SV->Bool
 | []=>false
 | x :: r=>x.lb||pn r
end
mutual
def iV:SV->SV
 | .ptr ..|.fB ..|.own _|.eA ..|.fA _|.fI _=>.cell
 | .agg cs=>.agg (uy cs)
 | .cd cs=>.cd (uy cs)
 | .fn f xs ys=>.fn f (uy xs) (uy ys)
 | x=>x
def uy:List SV->List SV
 | []=>[]
 | x :: r=>iV x :: uy r
end
def BT (X:Ctx) (b:List Slot) (f:FuncId) (args:List SV):dN :=
 match X.sp f with
 | none=>.fail
 | some S=>if args.any SV.gK then
   .ex S.α (λa=>(cO (args.map (view b)) (S.args a)/\((S.res a).scalar||(S.fr||!pn args))=true\/cO (uy args) (S.args a))/\S.pre a) S.res (λ_=>[])
  else .ex S.α (λa=>cO args (S.args a)/\S.pre a) S.res (λ_=>[])
def xf (X:Ctx) (b:List Slot) (l:Nat) (bi:Builtin) (ts:List TypeId) (xs:List SV):dN :=
 match bi with
 | .len=>match ts,xs with
  | [t],[x]=>zL X b t x
  | _,_=>.fail
 | .append=>match ts,xs with
  | [t,t'],[x,y]=>if t=t' then vJ X b l t x y else vF X b l t t' x y
  | _,_=>.fail
 | .copy=>match ts,xs with
  | [t,t'],[x,y]=>if t=t' then xG X b t x y else .fail
  | _,_=>.fail
 | .clear=>match ts,xs with
  | [t],[x]=>xz X b t x
  | _,_=>.fail
 | .min=>match xs with
  | [x,y]=>CA min x y
  | [x,y,z]=>B6 min x y z
  | _=>.fail
 | .max=>match xs with
  | [x,y]=>CA max x y
  | [x,y,z]=>B6 max x y z
  | _=>.fail
 | .cap=>match ts,xs with
  | [t],[x]=>I5 X t x
  | _,_=>.fail
 | _=>.fail
def dJ (X:Ctx) (s:St) (l:Nat):Op->dN
 | .move x|.assign x=>.pure (ev s x) []
 | .pick c a b=>IA (ev s c) (ev s a) (ev s b)
 | .alloc e=>match X.tt e with
  | some i=>.pure (.ptr l 0) [(l,.fix e (i.zero.cells.toList.map jz))]
  | none=>.fail
 | .box e x=>match X.tt e,(ev s x).cells? with
  | some i,some cs=>.pure (.ptr l 0) [(l,.fix e cs)]
  | _,_=>.fail
 | .build t parts=>HV X t (parts.toList.map λp=>(p.1,ev s p.2))
 | .buildSlice t n parts=>Ds X l t n (parts.toList.map λp=>(p.1,ev s p.2))
 | .load t x=>zw X s.b t (ev s x)
 | .store t x y=>xy X s.b t (ev s x) (ev s y)
 | .nilCheck x=>match ev s x with
  | .ptr l off=>.pure (.ptr l off) []
  | .db cs off=>.pure (.db cs off) []
  | .fn (.func f) fs cs=>.pure (.fn (.func f) fs cs) []
  | _=>.fail
 | .binOp op t x y _=>I4 X op t (ev s x) (ev s y)
 | .unOp op _ x=>JE op (ev s x)
 | .convert src dst x=>IB X src dst (ev s x)
 | .makeFunc fn first cap=>.pure (.fn fn (first.toList.map (ev s)) (cap.toList.map (ev s))) []
 | .makeSlice t n m=>Dv X l t (ev s n) (ev s m)
 | .slice t x lo hi mx=>xA X s.b l t (ev s x) (lo.map (ev s)) (hi.map (ev s)) (mx.map (ev s))
 | .fieldAddr t x j=>Du X t (ev s x) j
 | .field t x j=>HW X t (ev s x) j
 | .indexAddr t x i=>wW X s.b t (ev s x) (ev s i)
 | .index t x i=>HU X t (ev s x) (ev s i)
 | .extract x j=>match ev s x with
  | .cd cs=>match cs[j]? with
   | some v=>.pure v []
   | none=>.fail
  | _=>.fail
 | .makeMap t r=>match r with
  | none=>DY X l t
  | some _=>.fail
 | .lookup t x i ok=>zf X s.b t (ev s x) (ev s i) ok
 | .mapUpdate t x i y=>vy X s.b t (ev s x) (ev s i) (ev s y)
 | .insert t x i y=>vy X s.b t (ev s x) (ev s i) (ev s y)
 | .range t x=>Ep X l t (ev s x)
 | .entry x=>zl s.b (ev s x)
 | .call c=>match c.callee with
  | .value g=>match ev s g with
   | .fn (.func f) first cap=>BT X s.b f (first++c.args.toList.map (ev s)++cap)
   | _=>.fail
  | .builtin bi=>xf X s.b l bi c.argTypes.toList (c.args.toList.map (ev s))
  | _=>.fail
 | _=>.fail
def pO:Op->Bool
 | .store ..|.mapUpdate ..|.insert ..=>true
 | _=>false
def fq:Op->Bool
 | .alloc _|.box ..|.buildSlice ..|.makeSlice ..|.makeMap ..|.range ..=>true
 | .slice _ _ _ _ (some _)=>true
 | .call { callee:=.builtin .append,.. }=>true
 | _=>false
def eM (P:Program) (f:Fr) (s:St) (o:Oper) (a:Act) (w:World) (R:SV->List (Nat × Slot)->Prop):Prop :=
 ∃x u,R x u/\∀(K:Act->World->Prop) (Q:Exit->Act->World->Prop),
  (∀η' H' w' v,Den f (s.iv o.dst x u) η' H' (a.put o.dst v) w'->K (a.put o.dst v) w')->o.wp P a w K Q
section
variable {P:Program} {X:Ctx} {f:Fr} {s:St} {η:Nat->Value} {H:aZ} {a:Act} {w:World} {o:Oper} {R:SV->List (Nat × Slot)->Prop}
theorem vG (D:Den f s η H a w) {x:SV} {v:Value} {w':World} (hr:(execOp a.eval o).run P w=.ok (.value v) w') (g:w.grownBy w' none)
  (hx:rel η (aO s.b) H x v) (h:R x []):eM P f s o a w R :=
 ⟨x,[],h,λK Q hk=>by
  unfold Oper.wp
  rw [hr]
  exact hk η H w' v ((D.grown g).put o.dst hx)⟩
theorem dG (D:Den f s η H a w) {x:SV} {v:Value} (hr:∀w,(execOp a.eval o).run P w=.ok (.value v) w)
 (hx:rel η (aO s.b) H x v) (h:R x []):eM P f s o a w R:=vG D (hr w) (oC w none) hx h
theorem Den.zg (D:Den f s η H a w) (t:Nat):rel η (aO s.b) H ((s.t[t]?).getD .any) (a.tmps.getD t undef):=by
 cases h:s.t[t]? with
 | none=>simp [rel]
 | some x =>
  obtain ⟨u,h1,h2⟩:=rL D.t t x h
  have h3:a.tmps[t]?=some u:=by simpa using h1
  rw [DW,h3]
  exact h2
theorem Ma (η:Nat->Value) (q:Nat->Live) (H:aZ) (v:Value):rel η q H (jz v) v:=by
 unfold jz
 split<;>simp [rel]
theorem wZ (η:Nat->Value) (q:Nat->Live) (H:aZ):∀(vs:List Value),aL η q H (vs.map jz) vs
 | []=>by simp [aL]
 | v :: r=>by simp only [ig,aL];exact ⟨v,r,rfl,Ma η q H v,wZ η q H r⟩
theorem HL (η:Nat->Value) (q:Nat->Live) (H:aZ) (v:Value):rel η q H (wi v) v:=by
 unfold wi
 split
 ·rename_i cs
  simp only [rel]
  exact ⟨cs.toList,by simp,wZ η q H _⟩
 ·exact Ma η q H v
theorem Den.ev (D:Den f s η H a w) (x:Operand):rel η (aO s.b) H (ev s x) (a.eval x):=by
 cases x with
 | tmp t=>exact D.zg t
 | const v=>exact HL η _ H v
 | global g=>simp [Vc.ev,Act.eval,rel]
 | func g=>simp only [Vc.ev,Act.eval,rel];exact ⟨[],[],by simp,by simp [aL],by simp [aL]⟩
theorem Den.Ag (D:Den f s η H a w):∀xs:List Operand,aL η (aO s.b) H (xs.map (Vc.ev s)) (xs.map a.eval)
 | []=>by simp [aL]
 | x :: r=>by simp only [ig,aL];exact ⟨_,_,rfl,D.ev x,D.Ag r⟩
theorem aaZ {v:Value} (h:v.oneCell'=true):v.cells=#[v]:=by
 cases v<;>first|rfl|simp [Value.oneCell'] at h
theorem BB {q:Nat->Live}:∀{xs:List SV} {vs:List Value},xs.all SV.one=true->aL η q H xs vs->∀v∈vs,v.oneCell'=true
 | [],vs,_,h,v,hv=>by simp only [aL] at h;subst h;simp at hv
 | x :: r,vs,ho,h,v,hv=>by
  simp only [aL] at h
  obtain ⟨u,us,rfl,h1,h2⟩:=h
  simp only [yV,b9] at ho
  rcases cv.1 hv with rfl|hv
  ·exact vL ho.1 h1
  ·exact BB ho.2 h2 v hv
theorem Mb {q:Nat->Live} {x:SV} {v:Value} {ys:List SV} (hc:x.cells?=some ys) (h:rel η q H x v) :
  aL η q H ys v.cells.toList/\∀u∈v.cells.toList,u.oneCell'=true:=by
 unfold SV.cells? at hc
 split at hc
 ·rename_i cs
  split at hc
  ·rename_i ho
   simp at hc;subst hc
   simp only [rel] at h
   obtain ⟨vs,rfl,h2⟩:=h
   simp only [Value.cells]
   exact ⟨h2,BB ho h2⟩
  ·cases hc
 ·split at hc
  ·rename_i ho
   simp at hc;subst hc
   have h1:=vL ho h
   rw [aaZ h1]
   refine ⟨by simp only [aL];exact ⟨v,[],rfl,h,rfl⟩,λu hu=>by simp at hu;subst hu;exact h1⟩
  ·cases hc
theorem HX {q:Nat->Live} {x:SV} {v:Value} {y:Unit->Bool} (hc:x.Cz=some y) (h:rel η q H x v):v=.bool (y ()):=by
 cases x<;>simp [SV.Cz] at hc<;>subst hc<;>simpa [rel] using h
theorem lz {q:Nat->Live} {x:SV} {v:Value} {k:IntKind} {y:Unit->Int} (hc:x.ja=some (k,y)) (h:rel η q H x v):v=.int k (y ()):=by
 cases x<;>simp [SV.ja] at hc<;>obtain ⟨rfl,rfl⟩:=hc<;>simpa [rel] using h
theorem U8 (D:Den f s η H a w) (x:Operand) (ho:o.op=.move x\/o.op=.assign x) (h:R (Vc.ev s x) []):eM P f s o a w R :=
 dG D (v:=a.eval x) (λw=>by rcases ho with ho|ho<;>simp [execOp,ho]) (D.ev x) h
theorem afn (D:Den f s η H a w) (c x y:Operand) (ho:o.op=.pick c x y) (h:(IA (Vc.ev s c) (Vc.ev s x) (Vc.ev s y)).K R):eM P f s o a w R:=by
 have hc:=D.ev c
 have hx:=D.ev x
 have hy:=D.ev y
 unfold IA at h
 split at h
 ·rename_i e;rw [e] at hc;simp only [rel] at hc
  exact dG D (v:=a.eval x) (λw=>by simp [execOp,ho,hc,asBool]) hx h
 ·rename_i e;rw [e] at hc;simp only [rel] at hc
  exact dG D (v:=a.eval y) (λw=>by simp [execOp,ho,hc,asBool]) hy h
 ·rename_i z e;rw [e] at hc;simp only [rel] at hc
  split at h
  ·rename_i f g hf hg
   have h1:=HX hf hx
   have h2:=HX hg hy
   refine dG D (v:=if z () then a.eval x else a.eval y) (λw=>by simp [execOp,ho,hc,asBool]) ?_ h
   simp only [rel]
   rw [h1,h2]
   split<;>rfl
  ·exact h.elim
 ·exact h.elim
theorem RG {op:BinOp} {k:IntKind} {x y:Int} {v:Value} (h:∀w,(match op with
  | .add|.sub|.mul=>Op.intArith op k x y
  | .quo|.rem=>Op.intDiv op k x y
  | .and|.or|.xor|.andNot=>Op.intBits op k x y
  | _=>Op.intCmp op x y:Sem Value).run P w=.ok v w) (hs:ze op=false) (t:TypeId) (X Y:Operand) (w:World) :
  (do eqGuard op t X Y (.int k x) (.int k y);binOp op t (.int k x) (.int k y):Sem Value).run P w=.ok v w:=by
 have:=h w
 cases op<;>simp [ze] at hs<;>simp_all [eqGuard,binOp]
theorem ac2 (D:Den f s η H a w) (op:BinOp) (t t':TypeId) (x y:Operand) (ho:o.op=.binOp op t x y t') {k:IntKind} {m n:Unit->Int}
  (hs:ze op=false) (hx:(Vc.ev s x).ja=some (k,m)) (hy:(Vc.ev s y).ja=some (k,n)) (h:(xx op k m n).K R):eM P f s o a w R:=by
 have h1:=lz hx (D.ev x)
 have h2:=lz hy (D.ev y)
 have main:∀v X,(∀w,(match op with
  | .add|.sub|.mul=>Op.intArith op k (m ()) (n ())
  | .quo|.rem=>Op.intDiv op k (m ()) (n ())
  | .and|.or|.xor|.andNot=>Op.intBits op k (m ()) (n ())
  | _=>Op.intCmp op (m ()) (n ()):Sem Value).run P w=.ok v w)->rel η (aO s.b) H X v->R X []->eM P f s o a w R:=by
  intro v X hv hX hR
  refine dG D (v:=v) (λw=>?_) hX hR
  have:=RG hv hs t x y w
  simp only [execOp,ho,h1,h2,Sem.run_bind,this,Result.andThen_ok,Sem.run_pure]
 unfold xx at h
 cases op<;>simp only [dN.K] at h<;>simp only [ze] at hs
 case add=>exact main (.int k _) _ (λw=>rfl) (by simp only [rel]) h
 case sub=>exact main (.int k _) _ (λw=>rfl) (by simp only [rel]) h
 case mul=>exact main (.int k _) _ (λw=>rfl) (by simp only [rel]) h
 case quo=>obtain ⟨⟨h0⟩,h⟩:=h;exact main (.int k _) _ (λw=>by simp only [Op.intDiv,h0,if_false];rfl) (by simp only [rel]) h
 case rem=>obtain ⟨⟨h0⟩,h⟩:=h;exact main (.int k _) _ (λw=>by simp only [Op.intDiv,h0,if_false];rfl) (by simp only [rel]) h
 case and=>exact main (.int k _) _ (λw=>rfl) (by simp only [rel,fH]) h
 case or=>exact main (.int k _) _ (λw=>rfl) (by simp only [rel,fH]) h
 case xor=>exact main (.int k _) _ (λw=>rfl) (by simp only [rel,fH]) h
 case andNot=>exact main (.int k _) _ (λw=>rfl) (by simp only [rel,fH]) h
 case eql=>exact main (.bool _) _ (λw=>rfl) (by simp only [rel,ga]) h
 case neq=>exact main (.bool _) _ (λw=>rfl) (by simp only [rel,ga,bne]) h
 case lss=>exact main (.bool _) _ (λw=>rfl) (by simp only [rel,fk]) h
 case leq=>exact main (.bool _) _ (λw=>rfl) (by simp only [rel,iG]) h
 case gtr=>exact main (.bool _) _ (λw=>rfl) (by simp only [rel,fk]) h
 case geq=>exact main (.bool _) _ (λw=>rfl) (by simp only [rel,iG]) h
 all_goals first|exact h.elim|cases hs
theorem ac3 {op:BinOp} {k:IntKind} {m n:Int} (h:(BH op k m n).K R) :
  ∃X,R X []/\ze op=false/\∀(v:Value) (η:Nat->Value) (q:Nat->Live) (H:aZ) (Y:SV),
   (xx op k (λ_=>m) (λ_=>n))=.pure Y []->rel η q H Y v->rel η q H X v:=by
 cases op<;>simp only [BH,dN.K] at h
 case add|sub|mul|eql|neq|lss|leq|gtr|geq =>
  refine ⟨_,h,rfl,λv η q H Y hY hr=>?_⟩
  simp only [xx,dN.pure.injEq,and_true] at hY
  subst hY
  simpa only [rel] using hr
 all_goals exact h.elim
theorem ah0 (D:Den f s η H a w) (op:UnOp) (t:TypeId) (x:Operand) (ho:o.op=.unOp op t x) (h:(JE op (Vc.ev s x)).K R):eM P f s o a w R:=by
 have hx:=D.ev x
 unfold JE at h
 split at h<;>first|exact h.elim|skip
 all_goals
  rename_i e
  rw [e] at hx
  simp only [rel] at hx
 case h_3 =>
  rename_i d p _
  obtain ⟨c,hc,hp⟩:=hx
  refine dG D (v:=.bool (!c)) (λw=>by simp [execOp,ho,hc,Op.unary]) (by simp only [rel];exact ⟨!c,rfl,λe=>hp (by cases c<;>cases d<;>simp_all)⟩) h
 case h_6 =>
  split at h<;>first|exact h.elim|skip
  rename_i hs
  exact dG D (v:=.int _ _) (λw=>by simp only [execOp,ho,hx,Op.unary,hs,if_true];rfl) (by simp only [rel,fH]) h
 all_goals
  refine dG D (v:=_) (λw=>by simp [execOp,ho,hx,Op.unary,Op.intArith];rfl) (by simp [rel]) h
theorem afo (C:X.Ok P) (D:Den f s η H a w) (src dst:TypeId) (x:Operand) (ho:o.op=.convert src dst x) (h:(IB X src dst (Vc.ev s x)).K R):eM P f s o a w R:=by
 have hx:=D.ev x
 unfold IB at h
 split at h
 ·rename_i i j hi hj
  have Ii:=C.tt _ _ hi
  have Ij:=C.tt _ _ hj
  have OP:∃d,P.underlying src=some d:=by
   have:=Ii.desc
   split at this
   all_goals first
    | exact ⟨_,this⟩
    | (obtain ⟨d,h,_⟩:=this;exact ⟨_,h⟩)
  obtain ⟨d,hd⟩:=OP
  have wj:=Ij.desc
  split at h<;>first|exact h.elim|skip
  ·rename_i k k' n e1 e2
   rw [e1] at wj;rw [e2] at hx
   simp only [rel] at hx
   refine dG D (v:=.int k (k.wrap n)) (λw=>by simp [execOp,ho,hx,convert,run_underlying hd,run_underlying wj,Conv.intToInt]) (by simp [rel]) h
  ·rename_i k k' n e1 e2
   rw [e1] at wj;rw [e2] at hx
   simp only [rel] at hx
   refine dG D (v:=.int k (k.wrap (n ()))) (λw=>by simp [execOp,ho,hx,convert,run_underlying hd,run_underlying wj,Conv.intToInt]) (by simp [rel]) h
  ·rename_i y e1 e2
   rw [e1] at wj;rw [e2] at hx
   simp only [rel] at hx
   refine dG D (v:=.string (y ())) (λw=>by simp [execOp,ho,hx,convert,run_underlying hd,run_underlying wj]) (by simp [rel]) h
 ·exact h.elim
end
end Go.Vc
