import Derived.Test.YthnhbemmlfaihaaGreatT16
import Derived.Test.YthnhbemmlfaihaaGreatT17
import Derived.KernelRfl
import Derived.Carry
import Derived.ProofKit
import Derived.OpenShut
set_option linter.unusedVariables false
set_option linter.unusedSimpArgs false
set_option maxRecDepth 10000
set_option maxHeartbeats 64000000
namespace Go.Vc
open Go Go.ChangeShapes Go.WideShapes Go.ChangeAt Go.RowKit
def aeN (P:Program) (t:TypeId):TD->Bool
 | .int k=>match P.underlying t with|some (.int k')=>k == k'|_=>false
 | .bool=>match P.underlying t with|some .bool=>true|_=>false
 | .str=>match P.underlying t with|some .string=>true|_=>false
 | .sl e=>match P.underlying t with|some (.slice e')=>e == e'|_=>false
 | .ptr e=>match P.underlying t with|some (.pointer e')=>e == e'|_=>false
 | .st gs=>match P.underlying t with
  | some (.struct fs)=>(fs.toList.map λf=>(f.type,f.offset,P.cellsOf f.type)) == gs&&gs.all (λg=>Nat.blt 0 g.2.2)
  | _=>false
 | .arr n e=>match P.underlying t with|some (.array n' e')=>n == n'&&e == e'|_=>false
 | .map k v=>match P.underlying t with|some (.map k' v')=>k == k'&&v == v'|_=>false
 | .other=>match P.underlying t with|some (.struct _)=>false|some (.array _ _)=>false|some _=>true|none=>false
def Xz (P:Program) (t:TypeId) (i:TI):Bool :=
 (match P.info? t with|some inf=>inf.size == i.size&&inf.bytes == i.bytes|none=>false)&&i.zero.cells.size == i.size&&Nat.blt 0 i.size&&aeN P t i.d
theorem acF {P:Program} {t:TypeId} {i:TI} (hz:(P.info? t).map (·.zero)=some (some i.zero)) (hb:Xz P t i=true)
  (hf:i.flat=true->i.agg=true/\∀(vs us:List Value) (w:World),vs.length=i.size->us.length=i.size ->
   qT vs us=true->qT vs i.zero.cells.toList=true->∀op x y,(op=.eql\/op=.neq) ->
   (do eqGuard op t x y (.agg vs.toArray) (.agg us.toArray);binOp op t (.agg vs.toArray) (.agg us.toArray):Sem Value).run P w =
    .ok (.bool (if op=.eql then tz vs us else !tz vs us)) w)
  (hk:∀ks,i.kd=some ks->B7 P t (.ints ks):=by intro _ h;cases h):oZ P t i:=by
 unfold Xz at hb
 simp only [ei,beq_iff_eq] at hb
 obtain ⟨⟨⟨h1,h2⟩,h3⟩,h4⟩:=hb
 refine ⟨?_,h2,by simpa [Gj] using h3,?_,hf,hk⟩
 ·cases hi:P.info? t with
  | none=>rw [hi] at hz;cases hz
  | some inf =>
   rw [hi] at hz h1
   simp at hz h1
   exact ⟨inf,rfl,h1.1,h1.2,hz⟩
 ·cases hd:i.d<;>rw [hd] at h4<;>simp only [aeN] at h4 ⊢
  case int k=>split at h4<;>first|(simp at h4;subst h4;assumption)|cases h4
  case bool=>split at h4<;>first|assumption|cases h4
  case str=>split at h4<;>first|assumption|cases h4
  case sl e=>split at h4<;>first|(simp at h4;subst h4;assumption)|cases h4
  case ptr e=>split at h4<;>first|(simp at h4;subst h4;assumption)|cases h4
  case arr n e=>split at h4<;>first|(simp at h4;obtain ⟨rfl,rfl⟩:=h4;assumption)|cases h4
  case map k v=>split at h4<;>first|(simp at h4;obtain ⟨rfl,rfl⟩:=h4;assumption)|cases h4
  case st gs =>
   split at h4
   ·rename_i fs hu
    simp only [ei,beq_iff_eq,mN] at h4
    obtain ⟨e,xu⟩:=h4
    refine ⟨fs,hu,by rw [<-e];simp,λj f hj=>?_⟩
    have hg:gs[j]?=some (f.type,f.offset,P.cellsOf f.type):=by rw [<-e];simp [hj]
    have hp:=xu _ (b_ hg)
    unfold Program.cellsOf at hp hg
    cases hi:P.info? f.type with
    | none=>rw [hi] at hp;simp [Gj] at hp
    | some inf =>
     rw [hi] at hp hg
     refine ⟨inf,rfl,?_,by simpa using hg⟩
     have:0 < inf.size:=by simpa [Gj] using hp
     omega
   ·cases h4
  case other =>
   split at h4
   ·cases h4
   ·cases h4
   ·rename_i d h5 h6 hu
    exact ⟨d,hu,λx e=>h5 x e,λn e' e=>h6 n e' e⟩
   ·cases h4
theorem TN {P : Program} {f : FuncId} {fn : Func} (h : P.funcs[f]? = some fn) (hb : (fn.body.isSome && !(fn.name == "runtime.NumGoroutine")) = true) : nP P f fn := by
 simp only [ei,pI] at hb
 exact ⟨h,hb.1,hb.2⟩
theorem cz {n:Int} (h1:-9223372036854775808<=n) (h2:n<=9223372036854775807):IntKind.i64.wrap n=n:=by
 rw [IntKind.wrap_i64]
 omega
def Hy (P:Program) (t:TypeId) (z:Value):Bool :=
 match P.underlying t,z with
 | some (.int _),.int _ _=>true
 | some .bool,.bool _=>true
 | some .string,.string _=>true
 | _,_=>false
section
variable {P:Program}
theorem alH {t:TypeId} {z:Value} (hf:Hy P t z=true) (d:Nat) (a b:Value) (h:vH a b=true) (hz:vH a z=true) (w:World) :
  (Op.equalIn (d+1) t a b).run P w=.ok (B6 a b) w:=by
 unfold Hy at hf
 split at hf
 ·rename_i k k' n hu
  cases a<;>simp [vH] at hz
  cases b<;>simp [vH] at h
  subst h
  simp [Op.equalIn,run_underlying hu,B6]
 ·rename_i c hu
  cases a<;>simp [vH] at hz
  cases b<;>simp [vH] at h
  simp [Op.equalIn,run_underlying hu,B6]
 ·rename_i c hu
  cases a<;>simp [vH] at hz
  cases b<;>simp [vH] at h
  simp [Op.equalIn,run_underlying hu,B6]
 ·cases hf
theorem Td {t:TypeId} {z:Value} (hf:Hy P t z=true) (cs:Array Value) (off:Nat) (v:Value) (hv:cs[off]?=some v) (w:World):(part t cs off).run P w=.ok v w:=by
 unfold Hy at hf
 split at hf
 ·rename_i k k' n hu;simp [part,isAgg,run_underlying hu,hv]
 ·rename_i c hu;simp [part,isAgg,run_underlying hu,hv]
 ·rename_i c hu;simp [part,isAgg,run_underlying hu,hv]
 ·cases hf
def yF (P:Program):List Field->List Value->Nat->Bool
 | [],[],_=>true
 | f :: fs, z :: zs, off => f.offset == off && !(f.name == "_") && Hy P f.type z && yF P fs zs (off + 1)
 | _,_,_=>false
theorem RN (d:Nat) (xs ys:Array Value):∀(fs:List Field) (zs vs us:List Value) (off:Nat),yF P fs zs off=true->xs.toList.drop off=vs->ys.toList.drop off=us->qT vs us=true->qT vs zs=true ->
  ∀w,(Op.eqFields (d+1) xs ys fs).run P w=.ok (tz vs us) w
 | [],zs,vs,us,off,hs,hx,hy,h1,h2,w=>by
  cases zs with
  | cons _ _=>simp [yF] at hs
  | nil =>
   cases vs with
   | cons _ _=>simp [qT] at h2
   | nil=>simp [Op.eqFields,tz]
 | f :: fs,[],vs,us,off,hs,hx,hy,h1,h2,w=>by simp [yF] at hs
 | f :: fs,z :: zs,vs,us,off,hs,hx,hy,h1,h2,w=>by
  simp only [yF,ei,beq_iff_eq,pI] at hs
  obtain ⟨⟨⟨ho,hn⟩,hf⟩,hs⟩:=hs
  cases vs with
  | nil=>simp [qT] at h2
  | cons v vs =>
   cases us with
   | nil=>simp [qT] at h1
   | cons u us =>
    simp only [qT,ei] at h1 h2
    have XA:xs[off]?=some v:=by
     have:=congrArg (λl=>l[0]?) hx
     simp only [lq,Sb,vB] at this
     simpa using this
    have hux:ys[off]?=some u:=by
     have:=congrArg (λl=>l[0]?) hy
     simp only [lq,Sb,vB] at this
     simpa using this
    have uW:xs.toList.drop (off+1)=vs:=by rw [<-List.drop_drop,hx];rfl
    have AY:ys.toList.drop (off+1)=us:=by rw [<-List.drop_drop,hy];rfl
    have ih:=RN d xs ys fs zs vs us (off+1) hs uW AY h1.2 h2.2 w
    have wa : f.name ≠ "_" := by simpa using hn
    simp only [Op.eqFields]
    rw [if_pos wa]
    simp only [Sem.run_bind,ho,Td hf xs off v XA,Td hf ys off u hux,Result.andThen_ok,alH hf d v u h1.1 h2.1,tz]
    cases hq:B6 v u
    ·simp
    ·simpa using ih
theorem ali {t:TypeId} {zs:List Value} (hu:P.underlying t=some (.struct (P.fieldsOf t))) (hp:P.stoodInHeld t=false) (hg:P.eqGuardType P.depth t=false) (hs:yF P (P.fieldsOf t).toList zs 0=true)
  (vs us:List Value) (w:World) (h1:qT vs us=true) (h2:qT vs zs=true) (op:BinOp) (x y:Operand) (fa:op=.eql\/op=.neq) :
  (do eqGuard op t x y (.agg vs.toArray) (.agg us.toArray);binOp op t (.agg vs.toArray) (.agg us.toArray):Sem Value).run P w=.ok (.bool (if op=.eql then tz vs us else !tz vs us)) w:=by
 have he:=RN (P:=P) 9998 vs.toArray us.toArray (P.fieldsOf t).toList zs vs us 0 hs (by simp) (by simp) h1 h2 w
 have hr:=run_equalIn_struct w 9999 t vs.toArray us.toArray hu hp
 rcases fa with rfl|rfl
 ·simp only [Sem.run_bind,run_eqGuard_agg w _ t x y _ _ hg,Result.andThen_ok,run_eql_struct w]
  rw [hr,he];rfl
 ·simp only [Sem.run_bind,run_eqGuard_agg w _ t x y _ _ hg,Result.andThen_ok,run_neq_struct w]
  rw [hr,he];rfl
theorem SR:∀{ks:List IntKind} {l l':List Int},l.length=ks.length->l'.length=ks.length->qT (f_ ks l) (f_ ks l')=true
 | [],[],[],_,_=>rfl
 | k :: ks,a :: l,b :: l',h,h'=>by
  simp only [f_,qT,vH,beq_self_eq_true,Jf]
  exact SR (by simpa using h) (by simpa using h')
 | [],_ :: _,_,h,_=>by simp at h
 | [],[],_ :: _,_,h=>by simp at h
 | _ :: _,[],_,h,_=>by simp at h
 | _ :: _,_ :: _,[],_,h=>by simp at h
theorem aaG:∀ks:List IntKind,(ks.map λk=>Value.int k 0)=f_ ks (ks.map λ_=>0)
 | []=>rfl
 | k :: ks=>by simp only [lM,f_,aaG ks]
theorem acG:∀{ks:List IntKind} {l l':List Int},l.length=ks.length->l'.length=ks.length->tz (f_ ks l) (f_ ks l')=decide (l=l')
 | [],[],[],_,_=>rfl
 | k :: ks,a :: l,b :: l',h,h'=>by
  simp only [f_,tz,B6,acG (ks:=ks) (l:=l) (l':=l') (by simpa using h) (by simpa using h'),Nl]
  by_cases e:a=b<;>simp [e]
 | [],_ :: _,_,h,_=>by simp at h
 | [],[],_ :: _,_,h=>by simp at h
 | _ :: _,[],_,h,_=>by simp at h
 | _ :: _,_ :: _,[],_,h=>by simp at h
theorem Zb (em:Bool) (cs:Array Value):∀(fs:List Field) (ks:List IntKind) (l:List Int) (off:Nat),yF P fs (ks.map λk=>.int k 0) off=true->cs.toList.drop off=f_ ks l->l.length=ks.length ->
  ∀ w, (forIn (m := Sem) fs PUnit.unit λf _ => if f.name ≠ "_" then (do Instr.checkKey em 9999 f.type (<- part f.type cs f.offset); pure (ForInStep.yield PUnit.unit)) else pure (ForInStep.yield PUnit.unit)).run P w = .ok PUnit.unit w
 | [],ks,l,off,_,_,_,w=>by simp
 | f :: fs,[],l,off,hs,_,_,w=>by simp [yF] at hs
 | f :: fs,k :: ks,[],off,_,_,h,w=>by simp at h
 | f :: fs,k :: ks,a :: l,off,hs,hx,hl,w=>by
  simp only [yF,lM,ei,beq_iff_eq,pI] at hs
  obtain ⟨⟨⟨ho,hn⟩,hf⟩,hs⟩:=hs
  have XA:cs[off]?=some (.int k a):=by
   have:=congrArg (λl=>l[0]?) hx
   simp only [lq,f_,Sb,vB] at this
   simpa using this
  have uW:cs.toList.drop (off+1)=f_ ks l:=by rw [<-List.drop_drop,hx];rfl
  have ih:=Zb em cs fs ks l (off+1) hs uW (by simpa using hl) w
  have wa : f.name ≠ "_" := by simpa using hn
  have hk:P.underlying f.type=some (.int k)\/∃k',P.underlying f.type=some (.int k'):=by
   unfold Hy at hf
   split at hf
   ·rename_i k0 k' n hu _;exact .inr ⟨_,hu⟩
   ·rename_i e;cases e
   ·rename_i e;cases e
   ·cases hf
  have Qs:∀w,(Instr.checkKey em 9999 f.type (.int k a)).run P w=.ok () w:=λw=>by
   show (Instr.checkKey em (9998+1) f.type (.int k a)).run P w=_
   rw [Instr.checkKey]
   rcases hk with hk|⟨k',hk⟩<;>simp only [Sem.run_bind,run_underlying hk,Result.andThen_ok]<;>rfl
  rw [List.forIn_cons]
  simp only [wa,ne_eq,not_false_eq_true,if_true,Sem.run_bind,ho,Td hf cs off _ XA,Result.andThen_ok,Qs,Sem.run_pure]
  exact ih
theorem alI {t:TypeId} {ks:List IntKind} (hu:P.underlying t=some (.struct (P.fieldsOf t))) (hp:P.stoodInHeld t=false) (hs:yF P (P.fieldsOf t).toList (ks.map λk=>.int k 0) 0=true):B7 P t (.ints ks) where
 check:=λn hn em w=>by
  have h:=Zb (P:=P) em (f_ ks n).toArray (P.fieldsOf t).toList ks n 0 hs (by simp) hn w
  show (Instr.checkKey em (9999+1) t (.agg (f_ ks n).toArray)).run P w=_
  rw [Instr.checkKey]
  simp only [Sem.run_bind,run_underlying hu,Result.andThen_ok]
  rw [<-Array.forIn_toList]
  simp at h ⊢
  rw [h]
  rfl
 find:=λn hn es hes w=>by
  have eq:∀(n':List Int),n'.length=ks.length->(Op.equal t (.agg (f_ ks n).toArray) (.agg (f_ ks n').toArray)).run P w=.ok (decide (n=n')) w:=by
   intro n' nW
   have he:=RN (P:=P) 9998 (f_ ks n).toArray (f_ ks n').toArray (P.fieldsOf t).toList _ (f_ ks n) (f_ ks n') 0 hs (by simp) (by simp) (SR hn nW) (by rw [aaG];exact SR hn (by simp)) w
   have hr:=run_equalIn_struct w 9999 t (f_ ks n).toArray (f_ ks n').toArray hu hp
   unfold Op.equal
   rw [show Op.maxDepth=9999+1 from rfl,hr,he,acG hn nW]
  have ask:∀(es:List MapEntry) (i:Nat),(∀e∈es,∃n',KD.ok (.ints ks) n'/\e.key=KD.enc (.ints ks) n')->((Instr.findAsking t (.agg (f_ ks n).toArray) es i).run P w=.ok none w/\∀e∈es,e.key≠.agg (f_ ks n).toArray) \/
    ∃j e,(Instr.findAsking t (.agg (f_ ks n).toArray) es i).run P w=.ok (some (i+j,e.val)) w/\es[j]?=some e/\e.key=.agg (f_ ks n).toArray:=by
   intro es
   induction es with
   | nil=>intro i _;exact .inl ⟨by simp [Instr.findAsking],by simp⟩
   | cons e es ih =>
    intro i h
    obtain ⟨n',h1,h2⟩:=h e (by simp)
    have h2:e.key=.agg (f_ ks n').toArray:=h2
    have hq:=eq n' h1
    by_cases wa:n=n'
    ·right
     refine ⟨0,e,?_,rfl,by rw [h2,wa]⟩
     have hd:decide (n=n')=true:=by simpa using wa
     simp only [Instr.findAsking,Sem.run_bind,h2,hq,hd,Result.andThen_ok]
     simp
    ·have cZ:e.key≠.agg (f_ ks n).toArray:=by
      rw [h2]
      intro h3
      exact wa (KD.inj (k:=.ints ks) h1 hn h3).symm
     have hd:decide (n=n')=false:=by simpa using wa
     rcases ih (i+1) (λe he=>h e (by simp [he])) with ⟨g1,g2⟩|⟨j,e',g1,g2,g3⟩
     ·left
      refine ⟨?_,?_⟩
      ·simp only [Instr.findAsking,Sem.run_bind,h2,hq,hd,Result.andThen_ok]
       simpa using g1
      ·intro e' gJ
       rcases er.1 gJ with rfl|gJ
       ·exact cZ
       ·exact g2 e' gJ
     ·right
      refine ⟨j+1,e',?_,by simpa using g2,g3⟩
      simp only [Instr.findAsking,Sem.run_bind,h2,hq,hd,Result.andThen_ok]
      rw [show i+(j+1)=i+1+j by omega]
      simpa using g1
  show ((Instr.findKey t (.agg (f_ ks n).toArray) es).run P w=.ok none w/\_)\/_
  have base:(Instr.findKey t (.agg (f_ ks n).toArray) es).run P w=(Instr.findAsking t (.agg (f_ ks n).toArray) es 0).run P w\/es=[]:=by
   cases es with
   | nil=>exact .inr rfl
   | cons e es =>
    left
    obtain ⟨n',h1,h2⟩:=hes e (by simp)
    have h2:e.key=.agg (f_ ks n').toArray:=h2
    simp [Instr.findKey,run_underlying hu,Instr.findNow,h2,Instr.sameNow]
  rcases base with hb|rfl
  ·rcases ask es 0 hes with ⟨g1,g2⟩|⟨j,e,g1,g2,g3⟩
   ·exact .inl ⟨hb.trans g1,g2⟩
   ·exact .inr ⟨j,e,hb.trans (by simpa using g1),g2,g3⟩
  ·left
   refine ⟨?_,by simp⟩
   simp [Instr.findKey,run_underlying hu,Instr.findNow]
 stays:=λn hn w=>by
  have all:∀(ks:List IntKind) (l:List Int),((f_ ks l).zip (f_ ks l)).all (λ(x,y)=>Instr.sameBits 9999 x y)=true:=by
   intro ks
   induction ks with
   | nil=>intro l;cases l<;>rfl
   | cons k ks ih =>
    intro l
    cases l with
    | nil=>rfl
    | cons a l =>
     simp only [f_,List.zip_cons_cons,DL,ih l,Bool.and_true]
     simp [Instr.sameBits]
  have hs:Instr.sameBits 10000 (.agg (f_ ks n).toArray) (.agg (f_ ks n).toArray)=true:=by
   rw [show (10000:Nat)=9999+1 from rfl,Instr.sameBits]
   simpa using all ks n
  show (Instr.keyThatStays (.agg (f_ ks n).toArray) (.agg (f_ ks n).toArray)).run P w=_
  unfold Instr.keyThatStays
  rw [if_pos hs]
  rfl
end
universe u
def u6 {α:Type u}:List (Nat × α)->Nat->Option α
 | [],_=>none
 | (k,x) :: r,n=>match Nat.beq k n with
  | true=>some x
  | false=>u6 r n
def CU {α:Type u} (p:Nat->α->Prop):List (Nat × α)->Prop
 | []=>True
 | (k,x) :: r=>p k x/\CU p r
theorem NZ {α:Type u} {p:Nat->α->Prop}:∀{l:List (Nat × α)},CU p l->∀f x,u6 l f=some x->p f x
 | [],_,f,x,h=>by simp [u6] at h
 | (k,y) :: r,ha,f,x,h=>by
  simp only [u6] at h
  split at h
  ·rename_i e
   simp at h;subst h
   have:=oR e
   subst this
   exact ha.1
  ·exact NZ ha.2 f x h
theorem agf (n:Nat):(NatCast.natCast n:Int)=(n:Int):=rfl
structure fJ:Type 1 where
 α:Type
 args:α->List SV
 pre:α->Prop
 β:Type
 post:α->β->Prop
 res:α->β->SV
structure eI (P:Unit->Program) (f:FuncId) (S:fJ):Prop where
 lf:∀a,dm (S.args a)
 lr:∀a y,LF (S.res a y)
 run:∀a,S.pre a->∀(H F:bQ) (w:World) (vals:List Value),H.j6 w->F.j6 w->ez H (S.args a) vals ->
  Calls (P ()) f vals.toArray w λe w'=>∃y v H',S.post a y/\e=.returned v/\H.le H'/\H'.j6 w'/\F.j6 w' /\
   (∀b,H' b≠none->H b≠none\/F b=none)/\sJ H' (S.res a y) v/\w'.os=w.os/\w'.tape=w.tape/\w'.output=w.output
section
variable {P:Program} {X:Ctx} {f:Fr} {s s':St} {η:Nat->Value} {H:bQ} {a:Act} {w:World}
structure VS (Sp:fJ) (a:Sp.α) (b:List Slot) (v:SV):Prop where
 out:∃y,AJ (λ_=>Sp.post a y)/\Xw (Xv b v) (Sp.res a y)
theorem VS.mk' {Sp:fJ} {a:Sp.α} {b:List Slot} {v:SV} (y:Sp.β) (h:Xw (Xv b v) (Sp.res a y)) (hp:Sp.post a y):VS Sp a b v:=⟨⟨y,⟨hp⟩,h⟩⟩
structure aeO (PP:Unit->Program) (X:Ctx) (lv:Nat) (fn:Func) (Sp:fJ) (a:Sp.α):Prop where
 out:match fn.body with
  | some c=>vc PP X lv c (start (Sp.args a) fn.ntmps []) (AK X fn.results.toList (VS Sp a))
  | none=>False
theorem alj {PP:Unit->Program} {X:Ctx} (C:X.Ok (PP ())) (IO:oX X) {lv:Nat} {fid:FuncId} {fn:Func} (F:nP (PP ()) fid fn) (mr:pJ fn=true) {S:fJ}
  (dn:∀a,dm (S.args a)) (iX:∀a y,LF (S.res a y)) (h0:∀a,S.pre a->aeO PP X lv fn S a):eI PP fid S where
 lf:=dn
 lr:=iX
 run:=λα e9 H F0 w vals hH hF nQ=>by
  obtain ⟨c,hb⟩:=uB.1 F.body
  have hc:codeOk c=true:=by unfold pJ at mr;rw [hb] at mr;exact mr
  have h:=(h0 α e9).out
  rw [hb] at h
  let f:Fr:={ F:=F0,H0:=H,w0:=w }
  have D:Den f ⟨S.args α,[]⟩ (λ_=>.nilIface) H { tmps:=vals.toArray,defers:=[] } w:={
   t:=ez.up (bQ.le.refl H) nQ
   sv:=by simp [f,a_]
   d:=rfl
   h0:=bQ.le.refl H
   hw:=hH
   fw:=hF
   hf:=λb hb=>.inl hb
   sl:=λl x hx=>by simp at hx
   dj:=λl l' b h=>by simp [bg] at h
   dh:=λl b h=>by simp [bg] at h
   os:=rfl
   tape:=rfl
   out:=rfl }
  refine (Gx C F hb (BA C IO hc h) f _ H _ w rfl rfl D).mono ?_
  rintro e w' ⟨v,b',η',H',xv,rfl,⟨y,hp,hk⟩,D2,h2⟩
  let G:bQ:=λb=>match H' b with
   | some o=>some o
   | none=>match F0 b with
    | some _=>none
    | none=>w'.heap[b]?
  have hle:H'.le G:=λb o hb=>by simp only [G];rw [hb]
  have hG:G.j6 w':=λb o hb=>by
   simp only [G] at hb
   split at hb
   ·rename_i o' ho;simp at hb;subst hb;exact D2.hw b _ ho
   ·split at hb
    ·cases hb
    ·exact hb
  have Kb:xw D2 G:=⟨hle,λl b hl hb=>by
   obtain ⟨e1,e2⟩:=D2.dh l b hl hb
   have ny:F0 b=none:=e2
   simp only [G,e1,ny]⟩
  have h3:=GJ Kb 6 _ _ h2
  have h4:=vI hk.out h3
  refine ⟨y,v,G,hp.out,rfl,D2.h0.trans hle,hG,D2.fw,λb hb=>?_,qW _ _ (iX α y) h4,D2.os,D2.tape,D2.out⟩
  by_cases u5:F0 b=none
  ·exact .inr u5
  ·left
   have lU:H' b≠none:=by
    intro e
    apply hb
    simp only [G,e]
    cases hq:F0 b with
    | none=>exact absurd hq u5
    | some _=>rfl
   rcases D2.hf b lU with h|h
   ·exact h
   ·exact absurd h u5
theorem bU.of {P:Unit->Program} {fid:FuncId} {Sp:fJ} (I:eI P fid Sp) {S args:List SV} {b:List Slot} {k:List Slot->SV->Prop} (a:Sp.α)
  (om:(dT (args.map (view b)) (Sp.args a)/\((∀y,(Sp.res a y).scalar=true)\/sU args=false))\/dT (yE args) (Sp.args a))
  (e9:AJ λ_=>Sp.pre a) (hk:∀y,Hyp (λ_=>Sp.post a y)->k b (Sp.res a y)):bU S P fid args b k:=by
 refine ⟨λf η H ac w hS hd D=>?_⟩
 have fin:∀(Hc:bQ),Hc.j6 w->ez Hc (Sp.args a) ac.tmps.toList ->
   (∀H' w' v y,Hc.le H'->H'.j6 w'->w.grownBy w' none->(∀b,H' b≠none->Hc b≠none\/w.heap.size<=b)->sJ H' (Sp.res a y) v->∃H2,Den f ⟨args,b⟩ η H2 ac w'/\rel η (bg b) H2 (Sp.res a y) v)->Calls (P ()) fid ac.tmps w (Co f k):=by
  intro Hc dK nQ rn
  have:=I.run a e9.out Hc (jH w) w _ dK (Bv w) nQ
  rw [I9] at this
  refine this.mono λe w' ⟨y,v,H',hp,he,g1,g2,g3,g4,g5,g6,g7,g8⟩=>?_
  have pR:=MP g3 g6 g7 g8
  obtain ⟨H2,D',hr⟩:=rn H' w' v y g1 g2 pR (λb hb=>by
   rcases g4 b hb with h|h
   ·exact .inl h
   ·right
    unfold jH at h
    simpa using h) g5
  have sY:(⟨#[],[]⟩:Act).defers=f.dS.map G6:=by rw [hd];rfl
  exact ⟨v,b,η,H2,_,he,hk y ⟨hp⟩,{ D' with t:=by simp [a_],d:=sY },hr⟩
 have ht:a_ η (bg b) H args ac.tmps.toList:=D.t
 have plain:dT args (Sp.args a)->Calls (P ()) fid ac.tmps w (Co f k):=λhle=>by
  refine fin H D.hw (lx _ _ (I.lf a) (kC hle ht)) ?_
  intro H' w' v y vT dK pR bw iX
  exact ⟨H',D.share pR vT dK bw,sJ.up (bQ.le.refl H') iX⟩
 rcases om with ⟨hle,mY|hl⟩|hle
 ·have OO:a_ η (bg b) (jH w) (args.map (view b)) ac.tmps.toList:=by
   have:∀(xs:List SV) (vs:List Value),a_ η (bg b) H xs vs->a_ η (bg b) (jH w) (xs.map (view b)) vs:=by
    intro xs
    induction xs with
    | nil=>intro vs h;simpa [a_] using h
    | cons c r ih =>
     intro vs h
     simp only [a_,lM] at h ⊢
     obtain ⟨u,us,h1,h2,h3⟩:=h
     exact ⟨u,us,h1,GJ (xw.world D) 4 c u h2,ih us h3⟩
   exact this _ _ ht
  refine fin (jH w) (Bv w) (lx _ _ (I.lf a) (kC hle OO)) ?_
  intro H' w' v y _ _ pR _ iX
  exact ⟨H,D.grown pR,RY _ _ (mY y) iX⟩
 ·rw [S5 b _ hl] at hle
  exact plain hle
 ·refine fin H D.hw (lx _ _ (I.lf a) (kC hle (DC _ _ ht))) ?_
  intro H' w' v y vT dK pR bw iX
  exact ⟨H',D.share pR vT dK bw,sJ.up (bQ.le.refl H') iX⟩
theorem bU.rel {P:Unit->Program} {fid:FuncId} {Sp:fJ} (I:eI P fid Sp) {S args:List SV} {b:List Slot} {k:List Slot->SV->Prop} (a:Sp.α)
 (om:dT (yE args) (Sp.args a)) (e9:AJ λ_=>Sp.pre a) (hk:∀y,Hyp (λ_=>Sp.post a y)->k b (Sp.res a y)):bU S P fid args b k:=.of I a (.inr om) e9 hk
end
section
variable {P:Program} {X:Ctx} {f:Fr} {s s':St} {η:Nat->Value} {H:bQ} {a:Act} {w:World} {S:List SV} {r:Bool}
theorem Den.apa (D:Den f s η H a w) {e:TypeId} {sz:Nat} {E:iZ} (hE:∀x,dm (E.c x)/\(E.c x).all SV.one=true) :
  ∃η',Den f ⟨s.t,s.b++[.dyn e sz E.c λ_=>[]]⟩ η' H a w/\η' s.b.length=.slice none 0 0:=by
 have D1:=D.ext 1
 have hl:({ s with b:=s.b++jt 1 }:St).b[s.b.length]?=some .un:=by simp [jt]
 have D2:=D1.change (w':=w) (η':=od η s.b.length (.slice none 0 0)) (l:=s.b.length) (x:=.dyn e sz E.c λ_=>[]) none (b':=(s.b++jt 1).set s.b.length (.dyn e sz E.c λ_=>[])) rfl
  (λk hk=>lK _ _ _ k hk) (.inl hl) rfl (λ_ h=>by cases h) none (qQ w none) (λk hk=>by cases hk)
  (λb hb=>by rw [gq] at hb;simp [dt] at hb)
  (λT=>⟨[],by rw [gq];exact .inr ⟨⟨none,rfl⟩,rfl,rfl⟩,by simp [a_],by simp,hE⟩)
 have hb:(s.b++jt 1).set s.b.length (.dyn e sz E.c λ_=>[])=s.b++[.dyn e sz E.c λ_=>[]]:=by
  rw [Sf _ _ (cP _)]
  simp [jt]
 rw [hb] at D2
 exact ⟨_,D2,gq _ _ _⟩
theorem Den.adC (D:Den f s η H a w) {L m off:Nat} (hη:η L=.slice none 0 0) (hq:bg s.b L=.live) {e':TypeId} {cs:List SV} (hm:s.b[m]?=some (.fix e' cs)) (hc:cs[off]?=some .di) :
  Den f { s with b:=s.b.set m (.fix e' (cs.set off (.own L))) } η H a w:=by
 obtain ⟨bl,vs,g1,g2,g3⟩:=D.sl m _ hm
 refine D.adz hm rfl ⟨bl,vs,g1,g2,?_⟩
 obtain ⟨u,h1,h2⟩:=uF g3 off _ hc
 simp only [rel] at h2
 have h3:=yw g3 off (x:=.own L) (u:=u) (by
  simp only [rel,hq]
  exact ⟨by rw [hη,h2],none,0,0,h2⟩)
 have h4:vs.toList.set off u=vs.toList:=by
  apply nL
  intro j
  rw [iT]
  split
  ·rename_i e;subst e
   have:=(bX.1 h1).1
   rw [if_pos this,h1]
  ·rfl
 rw [h4] at h3
 exact h3
def St.Em (m off m' xt:Nat) (e:TypeId) (sz:Nat) (E:iZ) (s:St):St:=match s.b[m]?,s.b[m']? with
 | some (.fix e1 cs),some (.fix e2 ds)=>⟨s.t,((s.b++[Slot.dyn e sz E.c λ_=>[]]).set m (Slot.fix e1 (cs.set off (SV.own s.b.length)))).set m' (Slot.fix e2 (ds.set xt (SV.own s.b.length)))⟩
 | _,_=>s
theorem Den.Em (D:Den f s η H a w) {m off m' xt:Nat} {e:TypeId} {sz:Nat} {E:iZ} (hE:∀x,dm (E.c x)/\(E.c x).all SV.one=true) {e1 e2:TypeId} {cs ds:List SV} (cZ:m≠m')
  (hm:s.b[m]?=some (.fix e1 cs)) (hc:cs[off]?=some .di) (iu:s.b[m']?=some (.fix e2 ds)) (hd:ds[xt]?=some .di):∃η',Den f (s.Em m off m' xt e sz E) η' H a w:=by
 have aR:=(bX.1 hm).1
 have vU:=(bX.1 iu).1
 obtain ⟨η',D1,hη⟩:=D.apa (e:=e) (sz:=sz) hE
 have q1:bg (s.b++[Slot.dyn e sz E.c λ_=>[]]) s.b.length=.live:=by simp [bg,Slot.live]
 have j7:(s.b++[Slot.dyn e sz E.c λ_=>[]])[m]?=some (.fix e1 cs):=by rw [nJ aR];exact hm
 have D2:=D1.adC hη q1 j7 hc
 have jj:((s.b++[Slot.dyn e sz E.c λ_=>[]]).set m (.fix e1 (cs.set off (.own s.b.length))))[m']?=some (.fix e2 ds):=by
  rw [eU cZ,nJ vU];exact iu
 have q2:bg ((s.b++[Slot.dyn e sz E.c λ_=>[]]).set m (.fix e1 (cs.set off (.own s.b.length)))) s.b.length=.live:=by
  unfold bg
  rw [eU (by omega)]
  simp [Slot.live]
 have D3:=D2.adC hη q2 jj hd
 refine ⟨η',?_⟩
 unfold St.Em
 rw [hm,iu]
 exact D3
theorem Sat.Em {P:Unit->Program} {c:Code} {k:Exit->St->Prop} (m off m' xt:Nat) (e:TypeId) (sz:Nat) (E:iZ) (hE:∀x,dm (E.c x)/\(E.c x).all SV.one=true) {e1 e2:TypeId} {cs ds:List SV} (cZ:m≠m')
  (hm:s.b[m]?=some (.fix e1 cs)) (hc:cs[off]?=some .di) (iu:s.b[m']?=some (.fix e2 ds)) (hd:ds[xt]?=some .di) (h:Sat S r P c (s.Em m off m' xt e sz E) k):Sat S r P c s k:=⟨λF R f η H a w hS D=>by
 obtain ⟨η',D'⟩:=D.Em hE cZ hm hc iu hd
 exact h.out F R f η' H a w hS D'⟩
def Ez (l:Nat) (x:SV):SV:=match kp (λm=>Nat.beq m l) x with
 | true=>.any
 | false=>x
def BP (l:Nat):Slot->Slot
 | .fix e cs=>.fix e (cs.map (Ez l))
 | x=>x
def St.kill (l:Nat) (s:St):St:=match s.b[l]? with
 | some .un=>s
 | some _=>⟨s.t.map (Ez l),(s.b.map (BP l)).set l .dead⟩
 | none=>s
theorem abI (l:Nat) (x:SV):Le x (Ez l x):=by
 unfold Ez
 split
 ·exact .any _
 ·exact .refl _
theorem Te (l:Nat):∀xs:List SV,qH xs (xs.map (Ez l))
 | []=>trivial
 | x :: r=>by
  have:=abI l x
  simp only [lM,qH]
  split
  ·exact Te l r
  ·exact ⟨this,Te l r⟩
theorem abJ (l:Nat):∀xs:List SV,dT xs (xs.map (Ez l))
 | []=>.nil
 | x :: r=>.cons (abI l x) (abJ l r)
theorem abK (l:Nat):∀(b:List Slot) (j:Nat),(∀i x,b[i]?=some x->i+j=l->OX x)->nA b (match Nat.ble j l with|true=>(b.map (BP l)).set (l - j) .dead|false=>b.map (BP l))
 | [],j,_=>by split<;>trivial
 | x :: r,j,h=>by
  have ih:=abK l r (j+1) λi y hy hi=>h (i+1) y (by simpa using hy) (by omega)
  have slot:cY x (BP l x):=by
   cases x<;>first|exact cY.refl _|exact cY.fix (abJ l _)
  have unf:∀(y:Slot) (ys:List Slot),(y=.dead->OX x)->(y=.un->af7 x)->cY x y->nA r ys->nA (x :: r) (y :: ys):=by
   intro y ys h1 h2 h3 h4
   cases y<;>first|exact ⟨h1 rfl,h4⟩|exact ⟨h2 rfl,h4⟩|exact ⟨h3,h4⟩
  have Pu:∀ys,nA r ys->nA (x :: r) (BP l x :: ys):=λys sd=>by
   refine unf _ _ (λe=>?_) (λe=>?_) slot sd
   ·cases x<;>first|trivial|(simp [BP] at e)
   ·cases x<;>first|trivial|(simp [BP] at e)
  by_cases hj:j < l
  ·have e1:Nat.ble j l=true:=w9 (by omega)
   have e2:Nat.ble (j+1) l=true:=w9 (by omega)
   rw [e2] at ih
   rw [e1]
   simp only [lM]
   rw [show l - j=(l - (j+1))+1 by omega,Gd]
   exact Pu _ ih
  ·have e2:Nat.ble (j+1) l=false:=by
    cases e:Nat.ble (j+1) l with
    | false=>rfl
    | true=>have:=Gu e;omega
   rw [e2] at ih
   by_cases eA:j=l
   ·subst eA
    have e1:Nat.ble j j=true:=w9 (cP _)
    rw [e1]
    simp only [lM,SD,List.set_cons_zero]
    exact ⟨h 0 x (by simp) (by omega),ih⟩
   ·have e1:Nat.ble j l=false:=by
     cases e:Nat.ble j l with
     | false=>rfl
     | true=>have:=Gu e;omega
    rw [e1]
    simp only [lM]
    exact Pu _ ih
theorem Sat.kill {P:Unit->Program} {c:Code} {k:Exit->St->Prop} (l:Nat) (h:Sat S r P c (s.kill l) k):Sat S r P c s k:=by
 have main:(∀y,s.b[l]?=some y->OX y)->Sat S r P c ⟨s.t.map (Ez l),(s.b.map (BP l)).set l .dead⟩ k->Sat S r P c s k:=λhn h=>by
  refine Sat.weaken ⟨Te l s.t,?_⟩ h
  have:=abK l s.b 0 λi y hy hi=>by
   have:i=l:=by omega
   subst this
   exact hn y hy
  have e1:Nat.ble 0 l=true:=w9 (cJ _)
  rw [e1] at this
  exact this
 unfold St.kill at h
 cases hb:s.b[l]? with
 | none=>rw [hb] at h;exact h
 | some x =>
  rw [hb] at h
  cases x with
  | un=>exact h
  | _=>exact main (λy hy=>by rw [hb] at hy;cases hy;trivial) h
end
mutual
theorem Tf (g:Nat->Nat):∀x:SV,LF x->fx g x=x
 | .ptr ..,h=>h.elim
 | .gZ ..,h=>h.elim
 | .own _,h=>h.elim
 | .gI ..,h=>h.elim
 | .eV _,h=>h.elim
 | .iq _,h=>h.elim
 | .agg cs,h=>by simp only [LF] at h;simp only [fx,Ea g cs h]
 | .dE cs,h=>by simp only [LF] at h;simp only [fx,Ea g cs h]
 | .eH cs n,h=>by simp only [LF] at h;simp only [fx,Ea g cs h]
 | .dC cs off,h=>by simp only [LF] at h;simp only [fx,Ea g cs h]
 | .fn f x y,h=>by simp only [LF] at h;simp only [fx,Ea g x h.1,Ea g y h.2]
 | .nT t x,h=>by simp only [LF] at h;simp only [fx,Tf g x h]
 | .sl ..,_=>by rw [fx]
 | .im ..,_=>by rw [fx]
 | .mp ..,_=>by rw [fx]
 | .opt ..,_=>by rw [fx]
 | .any,_=>by rw [fx]
 | .cell,_=>by rw [fx]
 | .bc _,_=>by rw [fx]
 | .b _,_=>by rw [fx]
 | .nb _ _,_=>by rw [fx]
 | .ic _ _,_=>by rw [fx]
 | .i _ _,_=>by rw [fx]
 | .str _,_=>by rw [fx]
 | .v _,_=>by rw [fx]
 | .di,_=>by rw [fx]
theorem Ea (g:Nat->Nat):∀xs:List SV,dm xs->rY g xs=xs
 | [],_=>rfl
 | x :: r,h=>by simp only [dm] at h;simp only [rY,Tf g x h.1,Ea g r h.2]
end
theorem bU.jD {P:Unit->Program} {fid:FuncId} {Sp:mP} (I:iC P fid Sp) (dn:∀a y,LF (Sp.res a y)) {S args:List SV} {b:List Slot} {k:List Slot->SV->Prop} (a:Sp.α) (L:List Nat)
  (cq:ET (Sp.io a) L b.length []=true) (om:dT args (rY (xW L b.length) (Sp.args a))) (Xx:nA b (vQ (xW L b.length) (λ_=>false) 0 (Sp.io a) b))
  (e9:AJ λ_=>Sp.pre a) (hk:∀y,Hyp (λ_=>Sp.post a y)->k (TM b L Sp.mv (Sp.j8 a y)) (Sp.res a y)):bU S P fid args b k :=
 .io I a L cq om Xx e9 λy hy=>by rw [Tf _ _ (dn a y)];exact hk y hy
theorem aJ {p:Prop} (h:p:=by ((repeat' first|exact dT.nil|exact Le.refl _|refine dT.cons ?_ ?_|exact Le.ic rfl|exact Le.bc rfl|exact Le.i rfl|exact Le.b rfl|exact Le.sl rfl|exact Le.mp rfl|exact Le.im rfl|exact Le.rO rfl|refine Le.di rfl (λ_=>?_)|refine Le.eH rfl (λ_ _=>rfl) (λ_=>?_) ?_|refine Le.agg ?_|refine Le.dE ?_|refine Le.fn ?_ ?_|refine Le.dC ?_|exact trivial|refine And.intro ?_ ?_|refine λ_=>?_|exact Le.any _))<;>first|exact Le.i (by with_reducible assumption)|exact Le.i (n_ (by with_reducible assumption))|exact Le.sl (by with_reducible assumption)|exact Le.sl (n_ (by with_reducible assumption))|exact Le.ic (by with_reducible assumption)|exact Le.ic (n_ (by with_reducible assumption))|exact Le.b (by with_reducible assumption)|exact Le.b (n_ (by with_reducible assumption))|exact Le.bc (by with_reducible assumption)|exact Le.i (by assumption)|exact Le.i (n_ (by assumption))|exact Le.sl (by assumption)|exact Le.sl (n_ (by assumption))|exact Le.b (by assumption)|exact Le.b (n_ (by assumption))):p:=h
theorem ao {p:Prop} (h:p:=by ((try cbv)<;>(repeat' (first|with_reducible exact trivial|with_reducible refine And.intro ?_ ?_))<;>(try first|exact cY.refl _|exact cY.dyn rfl|exact cY.map rfl|exact cY.iter rfl rfl (.inl rfl)|exact cY.iter rfl rfl (.inr rfl)|refine cY.fix ?_|refine cY.dyn ?_)<;>((repeat' first|exact dT.nil|exact Le.refl _|refine dT.cons ?_ ?_|exact Le.ic rfl|exact Le.bc rfl|exact Le.i rfl|exact Le.b rfl|exact Le.sl rfl|exact Le.mp rfl|exact Le.im rfl|exact Le.rO rfl|refine Le.di rfl (λ_=>?_)|refine Le.eH rfl (λ_ _=>rfl) (λ_=>?_) ?_|refine Le.agg ?_|refine Le.dE ?_|refine Le.fn ?_ ?_|refine Le.dC ?_|exact trivial|refine And.intro ?_ ?_|refine λ_=>?_|exact Le.any _)))<;>first|exact Le.i (by with_reducible assumption)|exact Le.i (n_ (by with_reducible assumption))|exact Le.sl (by with_reducible assumption)|exact Le.sl (n_ (by with_reducible assumption))|exact Le.ic (by with_reducible assumption)|exact Le.ic (n_ (by with_reducible assumption))|exact Le.b (by with_reducible assumption)|exact Le.b (n_ (by with_reducible assumption))|exact Le.bc (by with_reducible assumption)|exact Le.i (by assumption)|exact Le.i (n_ (by assumption))|exact Le.sl (by assumption)|exact Le.sl (n_ (by assumption))|exact Le.b (by assumption)|exact Le.b (n_ (by assumption))):p:=h
theorem bP {p:Prop} (h:p:=by ((try cbv)<;>((repeat' first|exact dT.nil|exact Le.refl _|refine dT.cons ?_ ?_|exact Le.ic rfl|exact Le.bc rfl|exact Le.i rfl|exact Le.b rfl|exact Le.sl rfl|exact Le.mp rfl|exact Le.im rfl|exact Le.rO rfl|refine Le.di rfl (λ_=>?_)|refine Le.eH rfl (λ_ _=>rfl) (λ_=>?_) ?_|refine Le.agg ?_|refine Le.dE ?_|refine Le.fn ?_ ?_|refine Le.dC ?_|exact trivial|refine And.intro ?_ ?_|refine λ_=>?_|exact Le.any _)))<;>first|exact Le.i (by with_reducible assumption)|exact Le.i (n_ (by with_reducible assumption))|exact Le.sl (by with_reducible assumption)|exact Le.sl (n_ (by with_reducible assumption))|exact Le.ic (by with_reducible assumption)|exact Le.ic (n_ (by with_reducible assumption))|exact Le.b (by with_reducible assumption)|exact Le.b (n_ (by with_reducible assumption))|exact Le.bc (by with_reducible assumption)|exact Le.i (by assumption)|exact Le.i (n_ (by assumption))|exact Le.sl (by assumption)|exact Le.sl (n_ (by assumption))|exact Le.b (by assumption)|exact Le.b (n_ (by assumption))):p:=h
theorem kD {S:List SV} {r:Bool} {P:Unit->Program} {c:Code} {s:Vc.St} {k:Exit->Vc.St->Prop} (n:Nat) (s':Vc.St) (h0:qH (s.cut n).t s'.t) (pT:nA (s.cut n).b s'.b)
 (h:Sat S r P c s' k) (hn:mS (Nat.ble n) S=false:=by rfl):Sat S r P c s k:=⟨λF R f η H a w hS D=>h.out F R f η H a w hS ((D.cut n (by rw [hS];exact hn)).weaken ⟨h0,pT⟩)⟩
theorem BQ {G:Prop} (T:Code->(Exit->Vc.St->Prop)->Prop) {c:Code} {k:Exit->Vc.St->Prop} (main:T c k->G) (tail:T c k):G:=main tail
def VT (P:Program) (f:FuncId) (S:Spec):Prop:=∀a,S.pre a->∀(H F:bQ) (w:World) (vals:List Value),H.j6 w->F.j6 w->ez H (S.args a) vals ->
 Calls P f vals.toArray w λe w'=>∃v N,e=.returned v/\H.j6 w'/\F.j6 w'/\bQ.j6 N w'/\(∀b,N b≠none->H b=none/\F b=none)/\sJ N (S.res a) v /\
  w'.os=w.os/\w'.tape=w.tape/\w'.output=w.output
theorem VT.spec {P:Program} {f:FuncId} {S:Spec} (I:VT P f S) {fn:Func} (F:nP P f fn) (dn:∀a,dm (S.args a)) (iX:∀a,LF (S.res a)):cS P f S where
 fn:=⟨fn,F⟩
 lf:=dn
 lr:=iX
 fresh:=λ_=>I
 run:=λa hp H F w vals hH hF hr=>by
  refine (I a hp H F w vals hH hF hr).mono ?_
  rintro e w' ⟨v,N,he,g1,g2,g3,g4,g5,g6,g7,g8⟩
  let G:bQ:=λb=>match H b with
   | some o=>some o
   | none=>N b
  have Xh:N.le G:=λb o hb=>by
   have:=(g4 b (by rw [hb];simp)).1
   simp only [G,this];exact hb
  refine ⟨v,G,he,λb o hb=>by simp only [G];rw [hb],λb o hb=>?_,g2,λb hb=>?_,xc (jA.refl _ _) Xh _ _ g5,g6,g7,g8⟩
  ·simp only [G] at hb
   split at hb
   ·rename_i o' ho;simp at hb;subst hb;exact g1 b _ ho
   ·exact g3 b o hb
  ·cases hq:H b with
   | some o=>exact .inl (by simp)
   | none =>
    right
    exact (g4 b (by simpa only [G,hq] using hb)).2
section
variable {P:Program} {X:Ctx} {f:Fr} {s s':St} {η:Nat->Value} {H:bQ} {a:Act} {w:World}
structure asl (r:SV) (b:List Slot) (v:SV):Prop where
 out:match v with
  | .own l=>(match b[l]? with
   | some (.dyn e sz c xs)=>Le (.sl sz c xs) r/\∀x,GH (c x)=true
   | _=>False)
  | _=>False
structure aeP (PP:Unit->Program) (X:Ctx) (lv:Nat) (fn:Func) (args:List SV) (res:SV):Prop where
 out:match fn.body with
  | some c=>vc PP X lv c (start args fn.ntmps []) (AK X fn.results.toList (asl res))
  | none=>False
theorem alk {PP:Unit->Program} {X:Ctx} (C:X.Ok (PP ())) (IO:oX X) {lv:Nat} {fid:FuncId} {fn:Func} (F:nP (PP ()) fid fn) (mr:pJ fn=true) {S:Spec}
  (dn:∀a,dm (S.args a)) (iX:∀a,LF (S.res a)) (h0:∀a,S.pre a->aeP PP X lv fn (S.args a) (S.res a)):cS (PP ()) fid S:=by
 refine VT.spec (λα e9 H F0 w vals hH hF nQ=>?_) F dn iX
 ·obtain ⟨c,hb⟩:=uB.1 F.body
  have hc:codeOk c=true:=by unfold pJ at mr;rw [hb] at mr;exact mr
  have h:=(h0 α e9).out
  rw [hb] at h
  let f:Fr:={ F:=F0,H0:=H,w0:=w }
  have D:Den f ⟨S.args α,[]⟩ (λ_=>.nilIface) H { tmps:=vals.toArray,defers:=[] } w:={
   t:=ez.up (bQ.le.refl H) nQ
   sv:=by simp [f,a_]
   d:=rfl
   h0:=bQ.le.refl H
   hw:=hH
   fw:=hF
   hf:=λb hb=>.inl hb
   sl:=λl x hx=>by simp at hx
   dj:=λl l' b h=>by simp [bg] at h
   dh:=λl b h=>by simp [bg] at h
   os:=rfl
   tape:=rfl
   out:=rfl }
  refine (Gx C F hb (BA C IO hc h) f _ H _ w rfl rfl D).mono ?_
  rintro e w' ⟨v,b',η',H',xv,rfl,hk,D2,h2⟩
  have hk:=hk.out
  split at hk
  case h_2=>exact hk.elim
  rename_i l _
  split at hk
  case h_2=>exact hk.elim
  rename_i T e sz c xs hx
  obtain ⟨asm,mY⟩:=hk
  have hq:bg b' l=.live:=dg hx
  simp only [rel,hq] at h2
  obtain ⟨hv,jc⟩:=h2
  subst hv
  have Kb:xw D2 (jH w'):=xw.world D2
  have h3:=GJ Kb 6 (.own l) (η' l) (by simp only [rel];rw [show bg (St.mk [] b').b l=.live from hq];exact ⟨trivial,jc⟩)
  simp only [jK,hx] at h3
  let N:bQ:=λb=>if dt (η' l)=some b then w'.heap[b]? else none
  have hN:sJ N (.sl sz c xs) (η' l):=by
   simp only [rel] at h3 ⊢
   obtain ⟨⟨ad,cap,h1,h0,h2⟩,dn⟩:=h3
   refine ⟨⟨ad,cap,h1,h0,?_⟩,dn⟩
   rcases h2 with h|⟨a,ha,hs,gv⟩
   ·exact .inl h
   ·by_cases Lo:xs ()=[]
    ·exact .inl Lo
    ·refine .inr ⟨a,ha,hs,λj x hj=>?_⟩
     obtain ⟨vals,g1,g2,g3⟩:=gv j x hj
     have xu:0 < (xs ()).length:=List.length_pos_iff.2 Lo
     have Ci:dt (η' l)=some a.block:=by
      rw [h1,ha];simp only [dt];rw [if_neg (by omega)]
     refine ⟨vals,g1,MY _ _ (mY x) g2,λi u hu=>?_⟩
     have:=g3 i u hu
     unfold sH at this ⊢
     simp only [N,Ci,if_true]
     exact this
  refine ⟨_,N,rfl,λb o hb=>D2.hw b o (D2.h0 b o hb),D2.fw,λb o hb=>?_,λb hb=>?_,vI asm hN,D2.os,D2.tape,D2.out⟩
  ·simp only [N] at hb
   split at hb
   ·exact hb
   ·cases hb
  ·simp only [N] at hb
   split at hb
   ·rename_i hvb
    obtain ⟨e1,e2⟩:=D2.dh l b hq hvb
    refine ⟨?_,e2⟩
    cases hHb:H b with
    | none=>rfl
    | some o=>have:=D2.h0 b o hHb;rw [e1] at this;cases this
   ·exact absurd rfl hb
end
def fJ.fun (S:fJ):Spec:={ α:=S.α,args:=S.args,pre:=S.pre,res:=λa=>.opt (S.post a) (S.res a) }
theorem eI.fun {P:Unit->Program} {f:FuncId} {S:fJ} {fn:Func} (I:eI P f S) (F:nP (P ()) f fn):cS (P ()) f S.fun where
 fn:=⟨fn,F⟩
 lf:=I.lf
 lr:=λa=>by show LF (.opt (S.post a) (S.res a));simp only [LF];exact λy=>I.lr a y
 fresh:=λh=>by cases h
 run:=λa e9 H F' w vals hH hF nQ=>by
  refine (I.run a e9 H F' w vals hH hF nQ).mono ?_
  rintro e w' ⟨y,v,H',h1,h2,h3,h4,h5,h6,h7,h8⟩
  refine ⟨v,H',h2,h3,h4,h5,h6,?_,h8⟩
  show rel _ _ _ (.opt (S.post a) (S.res a)) v
  simp only [rel]
  exact ⟨⟨y,h1,h7⟩,λt=>I.lr a t⟩
theorem eI.opt {P:Unit->Program} {f:FuncId} {S T:fJ} (I:eI P f S) {U:Type} (p:T.α->U->Prop) (x:U->SV) (r:T.α->List SV) (c:T.α->U->S.α) (dn:∀u,LF (x u)) (hr:∀a,dm (r a))
  (hT:∀a,T.args a=.opt (p a) x :: r a) (hS:∀a u,S.args (c a u)=x u :: r a) (hp:∀a u,T.pre a->p a u->S.pre (c a u)) (hb:T.β=S.β) (hq:∀a u y,p a u->T.pre a->S.post (c a u) y->T.post a (hb ▸ y)/\S.res (c a u) y=T.res a (hb ▸ y)) (XB:∀a y,LF (T.res a y)):eI P f T where
 lf:=λa=>by
  rw [hT]
  exact ⟨by simp only [LF];exact dn,hr a⟩
 lr:=XB
 run:=λa e9 H F' w vals hH hF nQ=>by
  rw [hT] at nQ
  simp only [a_,rel] at nQ
  obtain ⟨v,vs,rfl,⟨⟨u,hu,hv⟩,_⟩,zd⟩:=nQ
  refine (I.run (c a u) (hp a u e9 hu) H F' w (v :: vs) hH hF (by rw [hS];simp only [a_];exact ⟨v,vs,rfl,hv,zd⟩)).mono ?_
  rintro e w' ⟨y,v',H',h1,h2,h3,h4,h5,h6,h7,h8⟩
  obtain ⟨q1,q2⟩:=hq a u y hu e9 h1
  rw [q2] at h7
  exact ⟨_,v',H',q1,h2,h3,h4,h5,h6,h7,h8⟩
section
variable {H:Type} {enc:TypeId × Value->H} {P:Program} {W W':World}
theorem Zj (hl:laidOutB P=true) (hb:Below W.heap.size W W') {sp:Nat->Bool}:∀{ts:List TypeId} {vs:List Value} {ds:List (DataW H)} {ps:List MemPlace},
  (∀t∈ts,P.readableRec t=true/\t < P.types.size)->DataW.TrodAll enc P W 0 (λ_=>true) true ts vs ds ps->(∀p∈ps,p.block < W.heap.size)->(∀p∈ps,sp p.block=true) ->
  DataW.TrodAll enc P W' 0 sp true ts vs ds ps
 | [],[],[],_,_,h,_,_=>h
 | t :: ts,v :: vs,d :: ds,ps,ht,⟨p,q,h1,h2,e⟩,aR,hs=>by
  subst e
  refine ⟨p,q,?_,?_,rfl⟩
  ·exact WideElems.Trod_stays hl (ht t (by simp)).1 (ht t (by simp)).2 h1 (λx hx=>hb.same (aR x (by simp [hx]))) (λx hx=>hs x (by simp [hx]))
  ·exact Zj hl hb (λu hu=>ht u (by simp [hu])) h2 (λx hx=>aR x (by simp [hx])) (λx hx=>hs x (by simp [hx]))
theorem am5 {f:Func} {s:ChangeSpec} {fresh handsOn again:Bool} {args:Array Value} {ds gs:List (DataW H)} {before:List MemPlace}
  (hl:laidOutB P=true) (HW:∀t∈f.params.toList,P.readableRec t=true/\t < P.types.size) {tb:TypeId} (hr:f.resultTypes=#[tb]) (Qw:P.underlying tb=some .bool)
  (tU:s.vars=[]) (iX:(s.fn H (ds++gs)).results=[.lit (.bool true)]) (om:(s.fn H (ds++gs)).args=ds) (zd:(s.fn H (ds++gs)).vars=[])
  (hW:DataW.Whole enc P f.params.toList s.vars false W args.toList ds gs before) (hb:Below W.heap.size W W') :
  s.post enc P f false fresh handsOn again W args (.bool true) W':=by
 obtain ⟨p,q,hA,hV,e,Qx,gz⟩:=hW
 have hq:q=[]:=by
  rw [tU] at hV
  cases gs with
  | nil=>exact hV
  | cons g gs=>exact hV.elim
 subst hq
 have hp:before=p:=by rw [e];simp
 subst hp
 have aR:=DataW.Whole.lt ⟨before,[],hA,hV,by simp,Qx,gz⟩
 have hR:∀(b:Nat) (sp:Nat->Bool) (hd:Bool),DataW.TrodAll enc P W' b sp hd f.resultTypes.toList ((Value.bool true).resultList f.resultTypes.size) (s.fn H (ds++gs)).results []:=by
  intro b sp hd
  rw [hr,iX]
  exact trodAll_cons_mk (shut_bool Qw _) trodAll_mk0
 have hAr:∀sp:Nat->Bool,(∀p∈before,sp p.block=true)->DataW.TrodAll enc P W' 0 sp true f.params.toList args.toList (s.fn H (ds++gs)).args before:=by
  intro sp hs
  rw [om]
  exact Zj hl hb HW hA aR hs
 have hVr:∀sp:Nat->Bool,DataW.TrodVars enc P W' sp s.vars (s.fn H (ds++gs)).vars []:=by
  intro sp
  rw [tU,zd]
  rfl
 refine ⟨ds,gs,before,[],before,[],⟨before,[],hA,hV,by simp,Qx,gz⟩,hR _ _ _,hAr _ (λp hp=>by simpa using aR p hp),hVr _,hb.frame _,λ_=>?_⟩
 refine ⟨?_,_,_,([]++before)++[],⟨[]++before,[],trodAll_append (hAr _ (λ_ _=>rfl)) (hR _ _ _),hVr _,rfl,?_,?_⟩,?_⟩
 ·exact ok_one hr rfl (okWide_bool_mk Qw _)
 ·intro b off hp
  have hp:MemPlace.cell b off∈before:=by simpa using hp
  rw [hb.frozen (aR _ hp)]
  exact Qx b off hp
 ·intro ha;cases ha
 ·intro p hp _
  simpa using hp
theorem akS {w w':World} (h:(jH w).j6 w') (h1:w'.os=w.os) (h2:w'.tape=w.tape) (h3:w'.output=w.output):Below w.heap.size w w':=by
 have g:=MP h h1 h2 h3
 exact ⟨g.os,g.tape,g.output,g.size,λk hk=>g.block k hk (by simp)⟩
theorem am6 {S:Spec} {fid:FuncId} (h:cS P fid S) (a:S.α) (ha:S.pre a) (iX:S.res a=.bc true) {w:World} {vals:List Value} (nQ:ez (jH w) (S.args a) vals) :
  Calls P fid vals.toArray w λe w'=>e=.returned (.bool true)/\Below w.heap.size w w':=by
 refine (h.run a ha (jH w) (jH w) w vals (Bv w) (Bv w) nQ).mono ?_
 rintro e w' ⟨v,H',rfl,_,_,hF,_,hv,h1,h2,h3⟩
 rw [iX] at hv
 simp only [rel] at hv
 subst hv
 exact ⟨rfl,akS hF h1 h2 h3⟩
end
end Go.Vc
