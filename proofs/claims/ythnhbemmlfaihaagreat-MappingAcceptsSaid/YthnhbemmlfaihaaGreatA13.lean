import Derived.Test.YthnhbemmlfaihaaGreatA11
import Derived.Test.YthnhbemmlfaihaaGreatA12
import Derived.KernelRfl
import Derived.Carry
import Derived.ProofKit
import Derived.OpenShut
set_option linter.unusedVariables false
set_option linter.unusedSimpArgs false
set_option maxRecDepth 10000
set_option maxHeartbeats 64000000
namespace Go.Vc
open Go Go.ChangeShapes Go.WideShapes Go.ChangeAt Go.RowKit
def Wy (P:Program) (t:TypeId):TD->Bool
 | .int k=>match P.underlying t with|some (.int k')=>k == k'|_=>false
 | .bool=>match P.underlying t with|some .bool=>true|_=>false
 | .str=>match P.underlying t with|some .string=>true|_=>false
 | .sl e=>match P.underlying t with|some (.slice e')=>e == e'|_=>false
 | .ptr e=>match P.underlying t with|some (.pointer e')=>e == e'|_=>false
 | .st gs=>match P.underlying t with
  | some (.struct fs)=>(fs.toList.map λf=>(f.type,f.offset,P.cellsOf f.type)) == gs&&gs.all (λg=>Nat.blt 0 g.2.2)
  | _=>false
 | .arr n e=>match P.underlying t with|some (.array n' e')=>n == n'&&e == e'|_=>false
 | .map k v=>match P.underlying t with|some (.map k' v')=>k == k'&&v == v'|_=>false
 | .other=>match P.underlying t with|some (.struct _)=>false|some (.array _ _)=>false|some _=>true|none=>false
def Pt (P:Program) (t:TypeId) (i:TI):Bool :=
 (match P.info? t with|some inf=>inf.size == i.size&&inf.bytes == i.bytes|none=>false)&&i.zero.cells.size == i.size&&Nat.blt 0 i.size&&Wy P t i.d
theorem UD {P:Program} {t:TypeId} {i:TI} (hz:(P.info? t).map (·.zero)=some (some i.zero)) (hb:Pt P t i=true)
  (hf:i.flat=true->i.agg=true/\∀(vs us:List Value) (w:World),vs.length=i.size->us.length=i.size ->
   nN vs us=true->nN vs i.zero.cells.toList=true->∀op x y,(op=.eql\/op=.neq) ->
   (do eqGuard op t x y (.agg vs.toArray) (.agg us.toArray);binOp op t (.agg vs.toArray) (.agg us.toArray):Sem Value).run P w =
    .ok (.bool (if op=.eql then pQ vs us else !pQ vs us)) w)
  (hk:∀ks,i.kd=some ks->xE P t (.ints ks):=by intro _ h;cases h):kV P t i:=by
 unfold Pt at hb
 simp only [b9,beq_iff_eq] at hb
 obtain ⟨⟨⟨h1,h2⟩,h3⟩,h4⟩:=hb
 refine ⟨?_,h2,by simpa [Bh] using h3,?_,hf,hk⟩
 ·cases hi:P.info? t with
  | none=>rw [hi] at hz;cases hz
  | some inf =>
   rw [hi] at hz h1
   simp at hz h1
   exact ⟨inf,rfl,h1.1,h1.2,hz⟩
 ·cases hd:i.d<;>rw [hd] at h4<;>simp only [Wy] at h4 ⊢
  case int k=>split at h4<;>first|(simp at h4;subst h4;assumption)|cases h4
  case bool=>split at h4<;>first|assumption|cases h4
  case str=>split at h4<;>first|assumption|cases h4
  case sl e=>split at h4<;>first|(simp at h4;subst h4;assumption)|cases h4
  case ptr e=>split at h4<;>first|(simp at h4;subst h4;assumption)|cases h4
  case arr n e=>split at h4<;>first|(simp at h4;obtain ⟨rfl,rfl⟩:=h4;assumption)|cases h4
  case map k v=>split at h4<;>first|(simp at h4;obtain ⟨rfl,rfl⟩:=h4;assumption)|cases h4
  case st gs =>
   split at h4
   ·rename_i fs hu
    simp only [b9,beq_iff_eq,gE] at h4
    obtain ⟨e,pW⟩:=h4
    refine ⟨fs,hu,by rw [<-e];simp,λj f hj=>?_⟩
    have hg:gs[j]?=some (f.type,f.offset,P.cellsOf f.type):=by rw [<-e];simp [hj]
    have hp:=pW _ (cM hg)
    unfold Program.cellsOf at hp hg
    cases hi:P.info? f.type with
    | none=>rw [hi] at hp;simp [Bh] at hp
    | some inf =>
     rw [hi] at hp hg
     refine ⟨inf,rfl,?_,by simpa using hg⟩
     have:0 < inf.size:=by simpa [Bh] using hp
     omega
   ·cases h4
  case other =>
   split at h4
   ·cases h4
   ·cases h4
   ·rename_i d h5 h6 hu
    exact ⟨d,hu,λx e=>h5 x e,λn e' e=>h6 n e' e⟩
   ·cases h4
theorem UE {P : Program} {f : FuncId} {fn : Func} (h : P.funcs[f]? = some fn) (hb : (fn.body.isSome && !(fn.name == "runtime.NumGoroutine")) = true) : kF P f fn := by
 simp only [b9,mX] at hb
 exact ⟨h,hb.1,hb.2⟩
theorem dV {n:Int} (h1:-9223372036854775808<=n) (h2:n<=9223372036854775807):IntKind.i64.wrap n=n:=by
 rw [IntKind.wrap_i64]
 omega
def Ci (P:Program) (t:TypeId) (z:Value):Bool :=
 match P.underlying t,z with
 | some (.int _),.int _ _=>true
 | some .bool,.bool _=>true
 | some .string,.string _=>true
 | _,_=>false
section
variable {P:Program}
theorem abO {t:TypeId} {z:Value} (hf:Ci P t z=true) (d:Nat) (a b:Value) (h:rP a b=true) (hz:rP a z=true) (w:World) :
  (Op.equalIn (d+1) t a b).run P w=.ok (xD a b) w:=by
 unfold Ci at hf
 split at hf
 ·rename_i k k' n hu
  cases a<;>simp [rP] at hz
  cases b<;>simp [rP] at h
  subst h
  simp [Op.equalIn,run_underlying hu,xD]
 ·rename_i c hu
  cases a<;>simp [rP] at hz
  cases b<;>simp [rP] at h
  simp [Op.equalIn,run_underlying hu,xD]
 ·rename_i c hu
  cases a<;>simp [rP] at hz
  cases b<;>simp [rP] at h
  simp [Op.equalIn,run_underlying hu,xD]
 ·cases hf
theorem Mq {t:TypeId} {z:Value} (hf:Ci P t z=true) (cs:Array Value) (off:Nat) (v:Value) (hv:cs[off]?=some v) (w:World):(part t cs off).run P w=.ok v w:=by
 unfold Ci at hf
 split at hf
 ·rename_i k k' n hu;simp [part,isAgg,run_underlying hu,hv]
 ·rename_i c hu;simp [part,isAgg,run_underlying hu,hv]
 ·rename_i c hu;simp [part,isAgg,run_underlying hu,hv]
 ·cases hf
def uA (P:Program):List Field->List Value->Nat->Bool
 | [],[],_=>true
 | f :: fs, z :: zs, off => f.offset == off && !(f.name == "_") && Ci P f.type z && uA P fs zs (off + 1)
 | _,_,_=>false
theorem KP (d:Nat) (xs ys:Array Value):∀(fs:List Field) (zs vs us:List Value) (off:Nat),uA P fs zs off=true->xs.toList.drop off=vs->ys.toList.drop off=us->nN vs us=true->nN vs zs=true ->
  ∀w,(Op.eqFields (d+1) xs ys fs).run P w=.ok (pQ vs us) w
 | [],zs,vs,us,off,hs,hx,hy,h1,h2,w=>by
  cases zs with
  | cons _ _=>simp [uA] at hs
  | nil =>
   cases vs with
   | cons _ _=>simp [nN] at h2
   | nil=>simp [Op.eqFields,pQ]
 | f :: fs,[],vs,us,off,hs,hx,hy,h1,h2,w=>by simp [uA] at hs
 | f :: fs,z :: zs,vs,us,off,hs,hx,hy,h1,h2,w=>by
  simp only [uA,b9,beq_iff_eq,mX] at hs
  obtain ⟨⟨⟨ho,hn⟩,hf⟩,hs⟩:=hs
  cases vs with
  | nil=>simp [nN] at h2
  | cons v vs =>
   cases us with
   | nil=>simp [nN] at h1
   | cons u us =>
    simp only [nN,b9] at h1 h2
    have Pu:xs[off]?=some v:=by
     have:=congrArg (λl=>l[0]?) hx
     simp only [jm,DX,rK] at this
     simpa using this
    have hux:ys[off]?=some u:=by
     have:=congrArg (λl=>l[0]?) hy
     simp only [jm,DX,rK] at this
     simpa using this
    have jD:xs.toList.drop (off+1)=vs:=by rw [<-List.drop_drop,hx];rfl
    have qf:ys.toList.drop (off+1)=us:=by rw [<-List.drop_drop,hy];rfl
    have ih:=KP d xs ys fs zs vs us (off+1) hs jD qf h1.2 h2.2 w
    have qd : f.name ≠ "_" := by simpa using hn
    simp only [Op.eqFields]
    rw [if_pos qd]
    simp only [Sem.run_bind,ho,Mq hf xs off v Pu,Mq hf ys off u hux,Result.andThen_ok,abO hf d v u h1.1 h2.1,pQ]
    cases hq:xD v u
    ·simp
    ·simpa using ih
theorem abt {t:TypeId} {zs:List Value} (hu:P.underlying t=some (.struct (P.fieldsOf t))) (hp:P.stoodInHeld t=false) (hg:P.eqGuardType P.depth t=false) (hs:uA P (P.fieldsOf t).toList zs 0=true)
  (vs us:List Value) (w:World) (h1:nN vs us=true) (h2:nN vs zs=true) (op:BinOp) (x y:Operand) (fg:op=.eql\/op=.neq) :
  (do eqGuard op t x y (.agg vs.toArray) (.agg us.toArray);binOp op t (.agg vs.toArray) (.agg us.toArray):Sem Value).run P w=.ok (.bool (if op=.eql then pQ vs us else !pQ vs us)) w:=by
 have he:=KP (P:=P) 9998 vs.toArray us.toArray (P.fieldsOf t).toList zs vs us 0 hs (by simp) (by simp) h1 h2 w
 have hr:=run_equalIn_struct w 9999 t vs.toArray us.toArray hu hp
 rcases fg with rfl|rfl
 ·simp only [Sem.run_bind,run_eqGuard_agg w _ t x y _ _ hg,Result.andThen_ok,run_eql_struct w]
  rw [hr,he];rfl
 ·simp only [Sem.run_bind,run_eqGuard_agg w _ t x y _ _ hg,Result.andThen_ok,run_neq_struct w]
  rw [hr,he];rfl
theorem LY:∀{ks:List IntKind} {l l':List Int},l.length=ks.length->l'.length=ks.length->nN (eT ks l) (eT ks l')=true
 | [],[],[],_,_=>rfl
 | k :: ks,a :: l,b :: l',h,h'=>by
  simp only [eT,nN,rP,beq_self_eq_true,DK]
  exact LY (by simpa using h) (by simpa using h')
 | [],_ :: _,_,h,_=>by simp at h
 | [],[],_ :: _,_,h=>by simp at h
 | _ :: _,[],_,h,_=>by simp at h
 | _ :: _,_ :: _,[],_,h=>by simp at h
theorem SM:∀ks:List IntKind,(ks.map λk=>Value.int k 0)=eT ks (ks.map λ_=>0)
 | []=>rfl
 | k :: ks=>by simp only [ig,eT,SM ks]
theorem UF:∀{ks:List IntKind} {l l':List Int},l.length=ks.length->l'.length=ks.length->pQ (eT ks l) (eT ks l')=decide (l=l')
 | [],[],[],_,_=>rfl
 | k :: ks,a :: l,b :: l',h,h'=>by
  simp only [eT,pQ,xD,UF (ks:=ks) (l:=l) (l':=l') (by simpa using h) (by simpa using h'),Hn]
  by_cases e:a=b<;>simp [e]
 | [],_ :: _,_,h,_=>by simp at h
 | [],[],_ :: _,_,h=>by simp at h
 | _ :: _,[],_,h,_=>by simp at h
 | _ :: _,_ :: _,[],_,h=>by simp at h
theorem QL (em:Bool) (cs:Array Value):∀(fs:List Field) (ks:List IntKind) (l:List Int) (off:Nat),uA P fs (ks.map λk=>.int k 0) off=true->cs.toList.drop off=eT ks l->l.length=ks.length ->
  ∀ w, (forIn (m := Sem) fs PUnit.unit λf _ => if f.name ≠ "_" then (do Instr.checkKey em 9999 f.type (<- part f.type cs f.offset); pure (ForInStep.yield PUnit.unit)) else pure (ForInStep.yield PUnit.unit)).run P w = .ok PUnit.unit w
 | [],ks,l,off,_,_,_,w=>by simp
 | f :: fs,[],l,off,hs,_,_,w=>by simp [uA] at hs
 | f :: fs,k :: ks,[],off,_,_,h,w=>by simp at h
 | f :: fs,k :: ks,a :: l,off,hs,hx,hl,w=>by
  simp only [uA,ig,b9,beq_iff_eq,mX] at hs
  obtain ⟨⟨⟨ho,hn⟩,hf⟩,hs⟩:=hs
  have Pu:cs[off]?=some (.int k a):=by
   have:=congrArg (λl=>l[0]?) hx
   simp only [jm,eT,DX,rK] at this
   simpa using this
  have jD:cs.toList.drop (off+1)=eT ks l:=by rw [<-List.drop_drop,hx];rfl
  have ih:=QL em cs fs ks l (off+1) hs jD (by simpa using hl) w
  have qd : f.name ≠ "_" := by simpa using hn
  have hk:P.underlying f.type=some (.int k)\/∃k',P.underlying f.type=some (.int k'):=by
   unfold Ci at hf
   split at hf
   ·rename_i k0 k' n hu _;exact .inr ⟨_,hu⟩
   ·rename_i e;cases e
   ·rename_i e;cases e
   ·cases hf
  have Au:∀w,(Instr.checkKey em 9999 f.type (.int k a)).run P w=.ok () w:=λw=>by
   show (Instr.checkKey em (9998+1) f.type (.int k a)).run P w=_
   rw [Instr.checkKey]
   rcases hk with hk|⟨k',hk⟩<;>simp only [Sem.run_bind,run_underlying hk,Result.andThen_ok]<;>rfl
  rw [List.forIn_cons]
  simp only [qd,ne_eq,not_false_eq_true,if_true,Sem.run_bind,ho,Mq hf cs off _ Pu,Result.andThen_ok,Au,Sem.run_pure]
  exact ih
theorem abP {t:TypeId} {ks:List IntKind} (hu:P.underlying t=some (.struct (P.fieldsOf t))) (hp:P.stoodInHeld t=false) (hs:uA P (P.fieldsOf t).toList (ks.map λk=>.int k 0) 0=true):xE P t (.ints ks) where
 check:=λn hn em w=>by
  have h:=QL (P:=P) em (eT ks n).toArray (P.fieldsOf t).toList ks n 0 hs (by simp) hn w
  show (Instr.checkKey em (9999+1) t (.agg (eT ks n).toArray)).run P w=_
  rw [Instr.checkKey]
  simp only [Sem.run_bind,run_underlying hu,Result.andThen_ok]
  rw [<-Array.forIn_toList]
  simp at h ⊢
  rw [h]
  rfl
 find:=λn hn es YH w=>by
  have eq:∀(n':List Int),n'.length=ks.length->(Op.equal t (.agg (eT ks n).toArray) (.agg (eT ks n').toArray)).run P w=.ok (decide (n=n')) w:=by
   intro n' lJ
   have he:=KP (P:=P) 9998 (eT ks n).toArray (eT ks n').toArray (P.fieldsOf t).toList _ (eT ks n) (eT ks n') 0 hs (by simp) (by simp) (LY hn lJ) (by rw [SM];exact LY hn (by simp)) w
   have hr:=run_equalIn_struct w 9999 t (eT ks n).toArray (eT ks n').toArray hu hp
   unfold Op.equal
   rw [show Op.maxDepth=9999+1 from rfl,hr,he,UF hn lJ]
  have ask:∀(es:List MapEntry) (i:Nat),(∀e∈es,∃n',KD.ok (.ints ks) n'/\e.key=KD.enc (.ints ks) n')->((Instr.findAsking t (.agg (eT ks n).toArray) es i).run P w=.ok none w/\∀e∈es,e.key≠.agg (eT ks n).toArray) \/
    ∃j e,(Instr.findAsking t (.agg (eT ks n).toArray) es i).run P w=.ok (some (i+j,e.val)) w/\es[j]?=some e/\e.key=.agg (eT ks n).toArray:=by
   intro es
   induction es with
   | nil=>intro i _;exact .inl ⟨by simp [Instr.findAsking],by simp⟩
   | cons e es ih =>
    intro i h
    obtain ⟨n',h1,h2⟩:=h e (by simp)
    have h2:e.key=.agg (eT ks n').toArray:=h2
    have hq:=eq n' h1
    by_cases qd:n=n'
    ·right
     refine ⟨0,e,?_,rfl,by rw [h2,qd]⟩
     have hd:decide (n=n')=true:=by simpa using qd
     simp only [Instr.findAsking,Sem.run_bind,h2,hq,hd,Result.andThen_ok]
     simp
    ·have bR:e.key≠.agg (eT ks n).toArray:=by
      rw [h2]
      intro h3
      exact qd (KD.inj (k:=.ints ks) h1 hn h3).symm
     have hd:decide (n=n')=false:=by simpa using qd
     rcases ih (i+1) (λe he=>h e (by simp [he])) with ⟨g1,g2⟩|⟨j,e',g1,g2,g3⟩
     ·left
      refine ⟨?_,?_⟩
      ·simp only [Instr.findAsking,Sem.run_bind,h2,hq,hd,Result.andThen_ok]
       simpa using g1
      ·intro e' fl
       rcases cv.1 fl with rfl|fl
       ·exact bR
       ·exact g2 e' fl
     ·right
      refine ⟨j+1,e',?_,by simpa using g2,g3⟩
      simp only [Instr.findAsking,Sem.run_bind,h2,hq,hd,Result.andThen_ok]
      rw [show i+(j+1)=i+1+j by omega]
      simpa using g1
  show ((Instr.findKey t (.agg (eT ks n).toArray) es).run P w=.ok none w/\_)\/_
  have base:(Instr.findKey t (.agg (eT ks n).toArray) es).run P w=(Instr.findAsking t (.agg (eT ks n).toArray) es 0).run P w\/es=[]:=by
   cases es with
   | nil=>exact .inr rfl
   | cons e es =>
    left
    obtain ⟨n',h1,h2⟩:=YH e (by simp)
    have h2:e.key=.agg (eT ks n').toArray:=h2
    simp [Instr.findKey,run_underlying hu,Instr.findNow,h2,Instr.sameNow]
  rcases base with hb|rfl
  ·rcases ask es 0 YH with ⟨g1,g2⟩|⟨j,e,g1,g2,g3⟩
   ·exact .inl ⟨hb.trans g1,g2⟩
   ·exact .inr ⟨j,e,hb.trans (by simpa using g1),g2,g3⟩
  ·left
   refine ⟨?_,by simp⟩
   simp [Instr.findKey,run_underlying hu,Instr.findNow]
 stays:=λn hn w=>by
  have all:∀(ks:List IntKind) (l:List Int),((eT ks l).zip (eT ks l)).all (λ(x,y)=>Instr.sameBits 9999 x y)=true:=by
   intro ks
   induction ks with
   | nil=>intro l;cases l<;>rfl
   | cons k ks ih =>
    intro l
    cases l with
    | nil=>rfl
    | cons a l =>
     simp only [eT,List.zip_cons_cons,yV,ih l,LJ]
     simp [Instr.sameBits]
  have hs:Instr.sameBits 10000 (.agg (eT ks n).toArray) (.agg (eT ks n).toArray)=true:=by
   rw [show (10000:Nat)=9999+1 from rfl,Instr.sameBits]
   simpa using all ks n
  show (Instr.keyThatStays (.agg (eT ks n).toArray) (.agg (eT ks n).toArray)).run P w=_
  unfold Instr.keyThatStays
  rw [if_pos hs]
  rfl
end
universe u
def CN {α:Type u}:List (Nat × α)->Nat->Option α
 | [],_=>none
 | (k,x) :: r,n=>match Nat.beq k n with
  | true=>some x
  | false=>CN r n
def u6 {α:Type u} (p:Nat->α->Prop):List (Nat × α)->Prop
 | []=>True
 | (k,x) :: r=>p k x/\u6 p r
theorem HP {α:Type u} {p:Nat->α->Prop}:∀{l:List (Nat × α)},u6 p l->∀f x,CN l f=some x->p f x
 | [],_,f,x,h=>by simp [CN] at h
 | (k,y) :: r,ha,f,x,h=>by
  simp only [CN] at h
  split at h
  ·rename_i e
   simp at h;subst h
   have:=lU e
   subst this
   exact ha.1
  ·exact HP ha.2 f x h
theorem Xq (n:Nat):(NatCast.natCast n:Int)=(n:Int):=rfl
theorem sC {p:Prop} (h:p:=by ((try simp only [Go.Vc.Xq] at *);omega)):p:=h
theorem oo0 {p:Prop} (h:p:=by omega):p:=h
theorem wD {p:Prop} (h:p:=by (((repeat' first|exact cO.nil|exact Le.refl _|refine cO.cons ?_ ?_|exact Le.ic rfl|exact Le.bc rfl|exact Le.i rfl|exact Le.b rfl|exact Le.sl rfl|exact Le.mp rfl|exact Le.fC rfl|exact Le.nX rfl|refine Le.cG rfl (λ_=>?_)|refine Le.dK rfl (λ_ _=>rfl) (λ_=>?_) ?_|refine Le.agg ?_|refine Le.cd ?_|refine Le.fn ?_ ?_|refine Le.db ?_|exact trivial|refine And.intro ?_ ?_|refine λ_=>?_|exact Le.any _))<;>(first|(refine Le.i ?_;first|exact bK|exact js|exact q7|exact u7|exact u9|exact YI|exact YJ|exact hL|exact hL.symm|exact rfl)|(refine Le.sl ?_;first|exact iJ|exact Av|exact CP|exact CQ|exact YK|exact YL|exact YM|exact rfl)|(refine cy.map ?_;first|exact q8|exact YN|exact YO|exact YP|exact YQ|exact YR|exact YS|exact rfl)|(refine cy.dyn ?_;first|exact YT|exact YU|exact YV|exact YW|exact YX|exact YY|exact YZ|exact rfl)|(refine Le.ic ?_;first|exact fW|exact yf|exact JY|exact Y1|exact Y2|exact Y3|exact Y4|exact rfl)|(refine Le.bc ?_;first|exact eV|exact Y5|exact Y6|exact Y7|exact Y8|exact Y9|exact Za|exact rfl)|(refine Le.b ?_;first|exact ny|exact Zb|exact Zc|exact Zd|exact Ze|exact Zf|exact Zg|exact rfl)|(refine Le.str ?_;first|exact Zh|exact Zi|exact Zj|exact Zk|exact Zl|exact Zm|exact Zn|exact rfl)|(refine Le.mp ?_;first|exact FV|exact Zo|exact Zp|exact Zq|exact Zr|exact Zs|exact Zt|exact rfl)|exact eH|exact pz|exact va|exact Zu|exact Zv|exact Zw|exact Zx|exact Wz 2 Zy|exact cy.iter rfl rfl (.inl rfl)))):p:=h
theorem bq {p:Prop} (h:p:=by (((try cbv)<;>(repeat' (first|with_reducible exact trivial|with_reducible refine And.intro ?_ ?_))<;>(try first|exact cy.refl _|exact cy.dyn rfl|exact cy.map rfl|exact cy.iter rfl rfl (.inl rfl)|exact cy.iter rfl rfl (.inr rfl)|refine cy.fix ?_|refine cy.dyn ?_)<;>((repeat' first|exact cO.nil|exact Le.refl _|refine cO.cons ?_ ?_|exact Le.ic rfl|exact Le.bc rfl|exact Le.i rfl|exact Le.b rfl|exact Le.sl rfl|exact Le.mp rfl|exact Le.fC rfl|exact Le.nX rfl|refine Le.cG rfl (λ_=>?_)|refine Le.dK rfl (λ_ _=>rfl) (λ_=>?_) ?_|refine Le.agg ?_|refine Le.cd ?_|refine Le.fn ?_ ?_|refine Le.db ?_|exact trivial|refine And.intro ?_ ?_|refine λ_=>?_|exact Le.any _)))<;>(first|(refine Le.i ?_;first|exact bK|exact js|exact q7|exact u7|exact u9|exact YI|exact YJ|exact hL|exact hL.symm|exact rfl)|(refine Le.sl ?_;first|exact iJ|exact Av|exact CP|exact CQ|exact YK|exact YL|exact YM|exact rfl)|(refine cy.map ?_;first|exact q8|exact YN|exact YO|exact YP|exact YQ|exact YR|exact YS|exact rfl)|(refine cy.dyn ?_;first|exact YT|exact YU|exact YV|exact YW|exact YX|exact YY|exact YZ|exact rfl)|(refine Le.ic ?_;first|exact fW|exact yf|exact JY|exact Y1|exact Y2|exact Y3|exact Y4|exact rfl)|(refine Le.bc ?_;first|exact eV|exact Y5|exact Y6|exact Y7|exact Y8|exact Y9|exact Za|exact rfl)|(refine Le.b ?_;first|exact ny|exact Zb|exact Zc|exact Zd|exact Ze|exact Zf|exact Zg|exact rfl)|(refine Le.str ?_;first|exact Zh|exact Zi|exact Zj|exact Zk|exact Zl|exact Zm|exact Zn|exact rfl)|(refine Le.mp ?_;first|exact FV|exact Zo|exact Zp|exact Zq|exact Zr|exact Zs|exact Zt|exact rfl)|exact eH|exact pz|exact va|exact Zu|exact Zv|exact Zw|exact Zx|exact Wz 2 Zy|exact cy.iter rfl rfl (.inl rfl)))):p:=h
theorem bM {p:Prop} (h:p:=by (((try cbv)<;>((repeat' first|exact cO.nil|exact Le.refl _|refine cO.cons ?_ ?_|exact Le.ic rfl|exact Le.bc rfl|exact Le.i rfl|exact Le.b rfl|exact Le.sl rfl|exact Le.mp rfl|exact Le.fC rfl|exact Le.nX rfl|refine Le.cG rfl (λ_=>?_)|refine Le.dK rfl (λ_ _=>rfl) (λ_=>?_) ?_|refine Le.agg ?_|refine Le.cd ?_|refine Le.fn ?_ ?_|refine Le.db ?_|exact trivial|refine And.intro ?_ ?_|refine λ_=>?_|exact Le.any _)))<;>(first|(refine Le.i ?_;first|exact bK|exact js|exact q7|exact u7|exact u9|exact YI|exact YJ|exact hL|exact hL.symm|exact rfl)|(refine Le.sl ?_;first|exact iJ|exact Av|exact CP|exact CQ|exact YK|exact YL|exact YM|exact rfl)|(refine cy.map ?_;first|exact q8|exact YN|exact YO|exact YP|exact YQ|exact YR|exact YS|exact rfl)|(refine cy.dyn ?_;first|exact YT|exact YU|exact YV|exact YW|exact YX|exact YY|exact YZ|exact rfl)|(refine Le.ic ?_;first|exact fW|exact yf|exact JY|exact Y1|exact Y2|exact Y3|exact Y4|exact rfl)|(refine Le.bc ?_;first|exact eV|exact Y5|exact Y6|exact Y7|exact Y8|exact Y9|exact Za|exact rfl)|(refine Le.b ?_;first|exact ny|exact Zb|exact Zc|exact Zd|exact Ze|exact Zf|exact Zg|exact rfl)|(refine Le.str ?_;first|exact Zh|exact Zi|exact Zj|exact Zk|exact Zl|exact Zm|exact Zn|exact rfl)|(refine Le.mp ?_;first|exact FV|exact Zo|exact Zp|exact Zq|exact Zr|exact Zs|exact Zt|exact rfl)|exact eH|exact pz|exact va|exact Zu|exact Zv|exact Zw|exact Zx|exact Wz 2 Zy|exact cy.iter rfl rfl (.inl rfl)))):p:=h
theorem hS:(∀{a b:Int},iG a b=decide (a<=b))/\(∀{a b:Int},fk a b=decide (a < b))/\(∀{a b:Int},ga a b=(a == b)) /\
  (∀{n:Int},-9223372036854775808<=n->n<=9223372036854775807->IntKind.i64.wrap n=n)/\(∀{a b:Int},((a == b)=true)=(a=b))/\(∀{p:Prop} [Decidable p],(decide p=true)=p) /\
  (∀{p:Prop} [Decidable p],(decide p=false)=¬p)/\(∀{a:Bool},((!a)=true)=(a=false))/\(∀{a b:Int},((a == b)=false)=(a≠b))/\(∀{α:Type} {a b:α},(a≠b)=¬(a=b)) /\
  (∀{a b:Bool},((a&&b)=true)=(a=true/\b=true))/\(∀{a b:Bool},((a||b)=true)=(a=true\/b=true))/\(∀{α:Type} {a b:α},(if True then a else b)=a)/\(∀{α:Type} {a b:α},(if False then a else b)=b) /\
  (∀{a:Bool},(¬(a=true))=(a=false))/\((false=true)=False)/\((true=false)=False)/\(∀{a:Bool},(¬(a=false))=(a=true)):=by
 refine ⟨rfl,rfl,rfl,dV,?_,?_,?_,?_,?_,rfl,?_,?_,?_,?_,?_,?_,?_,?_⟩<;>intros<;>simp
theorem ltT {a b:Nat} (h:fk a b=true):a < b:=by simpa [fk] using h
theorem ais {a b:Int} (h:fk a b=true):a < b:=by simpa [fk] using h
theorem ltF {a b:Nat} (h:fk a b=false):b<=a:=by simpa [fk] using h
theorem Xr {a b:Int} (h:fk a b=false):b<=a:=by simpa [fk] using h
theorem ait {a b:Int} (h:iG a b=true):a<=b:=by simpa [iG] using h
theorem Xs {a b:Int} (h:iG a b=false):b < a:=by simpa [iG] using h
theorem eqT {a b:Int} (h:ga a b=true):a=b:=by simpa [ga] using h
theorem eqF {a b:Int} (h:ga a b=false):¬a=b:=by simpa [ga] using h
theorem neT {a b:Int} (h:(!ga a b)=true):¬a=b:=by simpa [ga] using h
theorem neF {a b:Int} (h:(!ga a b)=false):a=b:=by simpa [ga] using h
theorem aG {p:Prop} (g:p:=by first|exact ais h.out|exact ltT h.out|exact eqF h.out|exact eqT h.out|exact Xr h.out|exact yY.2 (Xr h.out)|exact ait h.out|exact Xs h.out|exact DN.2 (Xs h.out)|exact neT h.out|exact neF h.out|(have h':=h.out;simp only [hS] at h';simp only [Go.Vc.Xq] at *;omega)|(have h':=h.out;simpa [fk,iG,ga] using h')):p:=g
theorem df0 {x:Unit->Bool} {A B:Prop} (b:B) (h:¬x ()=true:=by simp [ga,Expr.op]):(we x->A)/\(wg x->B):=⟨λt=>absurd t.out h,λ_=>b⟩
theorem dt0 {x:Unit->Bool} {A B:Prop} (a:A) (h:¬x ()=false:=by simp [ga,Expr.op]):(we x->A)/\(wg x->B):=⟨λ_=>a,λt=>absurd t.out h⟩
@[reducible] def JZ (T:TypeId->Option TI) (E:TypeId->Option gx) (fs:List (Nat × Func)) (sp:List (Nat × Spec)) (io lp cut row emp:List Nat):Ctx :=
 { tt:=T,el:=E,sp:=λf=>CN sp (id f),inl:=λf=>CN fs (id f),io:=λf=>fj f io,lp:=λf=>fj f lp,cut:=λf=>fj f cut,row:=λt=>fj t row,emp:=λt=>fj t emp }
def CB (PP:Unit->Program) (X:Ctx):Prop:=X.Ok (PP ())/\lC X
theorem Ns {PP:Unit->Program} {T:TypeId->Option TI} {E:TypeId->Option gx} {fs:List (Nat × Func)} {sp:List (Nat × Spec)} {io lp cut row emp:List Nat} (ht:∀t i,T t=some i->kV (PP ()) t i)
 (he:∀X:Ctx,X.tt=T->∀t e,E t=some e->BS (PP ()) X t e) (hm:(PP ()).follows .mixedOrders=true) (hf:u6 (λf fn=>kF (PP ()) f fn/\lV fn=true) fs) (hs:u6 (λf S=>cY (PP ()) f S) sp) :
 CB PP (JZ T E fs sp io lp cut row emp):=⟨⟨ht,he _ rfl,HP hs,λf fn h=>(HP hf f fn h).1,hm⟩,λf fn h=>(HP hf f fn h).2⟩
theorem fo {P : Program} {f : FuncId} {fn : Func} (h : P.funcs[f]? = some fn) (hb : (fn.body.isSome && !(fn.name == "runtime.NumGoroutine")) = true := by kernel_rfl) (hc : lV fn = true := by kernel_rfl) : kF P f fn /\ lV fn = true := ⟨UE h hb, hc⟩
section
variable {PP:Unit->Program} {X:Ctx} {fid:FuncId} {fn:Func}
theorem e6 (B:CB PP X) (F:kF (PP ()) fid fn/\lV fn=true) {S:Spec} (ca:∀a,cj (S.args a)) (gu:∀a,LF (S.res a)) (h0:∀a,S.pre a->Xl PP X 2 fn (S.args a) (S.res a)) (su:S.fr=false:=by rfl):cY (PP ()) fid S :=
 abN B.1 B.2 F.1 F.2 ca gu h0 su
theorem Vm (B:CB PP X) (F:kF (PP ()) fid fn/\lV fn=true) {S:Spec} (ca:∀a,cj (S.args a)) (gu:∀a,LF (S.res a)) (h0:∀a,S.pre a->Wx PP X 2 fn (S.args a) (S.res a)):cY (PP ()) fid S :=
 abr B.1 B.2 F.1 F.2 ca gu h0
theorem Vn (B:CB PP X) (F:kF (PP ()) fid fn/\lV fn=true) {S:pc} (ca:∀a,cj (S.args a)) (gu:∀a y,LF (S.res a y)) (h0:∀a,S.pre a->Ww PP X 2 fn S a):sB PP fid S :=
 abq B.1 B.2 F.1 F.2 ca gu h0
theorem qZ (B:CB PP X) (F:kF (PP ()) fid fn/\lV fn=true) {Sp:nU} (hw:∀a y,JX Sp.mv (Sp.io a) (Sp.ld a y)=true) (hm:∀a,zY Sp.mv 0 (Sp.io a)=true/\CM (Sp.io a).length Sp.mv=true) (Ps:Sp.mv.Nodup)
 (h0:∀a,Sp.pre a->Xp PP X 2 fn Sp a):l5 PP fid Sp:=ado B.1 B.2 F.1 F.2 hw hm Ps h0
variable {S:List SV} {r:Bool} {s:St} {body:Code} {k:Exit->St->Prop}
theorem Sat.j8 (B:CB PP X) (h:tN S r PP X 2 body s k) (hc:codeOk body=true:=by kernel_rfl):Sat S r PP body s k:=Sat.go B.1 B.2 hc h
theorem Sat.apa (B:CB PP X) (n:Nat) (h:MG S r PP X 2 body n s k) (hc:codeOk body=true:=by kernel_rfl):Sat S r PP (.loop body) s k:=Sat.rounds B.1 B.2 hc n h
theorem Sat.aqa (B:CB PP X) {α:Type} (n:Nat) (own:List (Place × Nat)) (I:α->St) (J:α->Prop) (μ:α->Nat) (x0:α) (h0:oT (s.cut n).t (I x0).t) (py:lL (s.cut n).b (I x0).b) (hJ:J x0)
 (hr:∀x,J x->tN S r PP X 2 body (I x) (Ig S n own I J μ x k)) (hc:codeOk body=true:=by kernel_rfl) (hn:kX (Nat.ble n) S=false:=by rfl):Sat S r PP (.loop body) s k:=Sat.loop B.1 B.2 hc n own I J μ x0 h0 py hJ hr hn
theorem Sat.dP (B:CB PP X) {α:Type} (n m:Nat) (own:List (Place × Nat)) (ut:α->List (Nat × SV)) (ub:α->List (Nat × Slot)) (J:α->Prop) (μ:α->Nat) (x0:α)
  (h0:oT (s.cut n).t (s.patch n m (ut x0) (ub x0)).t) (py:lL (s.cut n).b (s.patch n m (ut x0) (ub x0)).b) (hJ:J x0)
  (hr:∀x,J x->tN S r PP X 2 body (s.patch n m (ut x) (ub x)) (Ig S n own (λx=>s.patch n m (ut x) (ub x)) J μ x k)) (hc:codeOk body=true:=by kernel_rfl) (hn:kX (Nat.ble n) S=false:=by rfl):Sat S r PP (.loop body) s k :=
 Sat.ag4 B.1 B.2 hc n m own ut ub J μ x0 h0 py hJ hr hn
end
def pc.fun (S:pc):Spec:={ α:=S.α,args:=S.args,pre:=S.pre,res:=λa=>.opt (S.post a) (S.res a) }
theorem sB.fun {P:Unit->Program} {f:FuncId} {S:pc} {fn:Func} (I:sB P f S) (F:kF (P ()) f fn):cY (P ()) f S.fun where
 fn:=⟨fn,F⟩
 lf:=I.lf
 lr:=λa=>by show LF (.opt (S.post a) (S.res a));simp only [LF];exact λy=>I.lr a y
 fresh:=λh=>by cases h
 run:=λa dR H F' w vals hH hF iX=>by
  refine (I.run a dR H F' w vals hH hF iX).mono ?_
  rintro e w' ⟨y,v,H',h1,h2,h3,h4,h5,h6,h7,h8⟩
  refine ⟨v,H',h2,h3,h4,h5,h6,?_,h8⟩
  show rel _ _ _ (.opt (S.post a) (S.res a)) v
  simp only [rel]
  exact ⟨⟨y,h1,h7⟩,λt=>I.lr a t⟩
theorem sB.opt {P:Unit->Program} {f:FuncId} {S T:pc} (I:sB P f S) {U:Type} (p:T.α->U->Prop) (x:U->SV) (r:T.α->List SV) (c:T.α->U->S.α) (ca:∀u,LF (x u)) (hr:∀a,cj (r a))
  (hT:∀a,T.args a=.opt (p a) x :: r a) (hS:∀a u,S.args (c a u)=x u :: r a) (hp:∀a u,T.pre a->p a u->S.pre (c a u)) (hb:T.β=S.β) (hq:∀a u y,p a u->T.pre a->S.post (c a u) y->T.post a (hb ▸ y)/\S.res (c a u) y=T.res a (hb ▸ y)) (Pv:∀a y,LF (T.res a y)):sB P f T where
 lf:=λa=>by
  rw [hT]
  exact ⟨by simp only [LF];exact ca,hr a⟩
 lr:=Pv
 run:=λa dR H F' w vals hH hF iX=>by
  rw [hT] at iX
  simp only [aL,rel] at iX
  obtain ⟨v,vs,rfl,⟨⟨u,hu,hv⟩,_⟩,qc⟩:=iX
  refine (I.run (c a u) (hp a u dR hu) H F' w (v :: vs) hH hF (by rw [hS];simp only [aL];exact ⟨v,vs,rfl,hv,qc⟩)).mono ?_
  rintro e w' ⟨y,v',H',h1,h2,h3,h4,h5,h6,h7,h8⟩
  obtain ⟨q1,q2⟩:=hq a u y hu dR h1
  rw [q2] at h7
  exact ⟨_,v',H',q1,h2,h3,h4,h5,h6,h7,h8⟩
section
variable {H:Type} {enc:TypeId × Value->H} {P:Program} {W W':World}
theorem QW (hl:laidOutB P=true) (hb:Below W.heap.size W W') {sp:Nat->Bool}:∀{ts:List TypeId} {vs:List Value} {ds:List (DataW H)} {ps:List MemPlace},
  (∀t∈ts,P.readableRec t=true/\t < P.types.size)->DataW.TrodAll enc P W 0 (λ_=>true) true ts vs ds ps->(∀p∈ps,p.block < W.heap.size)->(∀p∈ps,sp p.block=true) ->
  DataW.TrodAll enc P W' 0 sp true ts vs ds ps
 | [],[],[],_,_,h,_,_=>h
 | t :: ts,v :: vs,d :: ds,ps,ht,⟨p,q,h1,h2,e⟩,aP,hs=>by
  subst e
  refine ⟨p,q,?_,?_,rfl⟩
  ·exact WideElems.Trod_stays hl (ht t (by simp)).1 (ht t (by simp)).2 h1 (λx hx=>hb.same (aP x (by simp [hx]))) (λx hx=>hs x (by simp [hx]))
  ·exact QW hl hb (λu hu=>ht u (by simp [hu])) h2 (λx hx=>aP x (by simp [hx])) (λx hx=>hs x (by simp [hx]))
theorem adp {f:Func} {s:ChangeSpec} {fresh handsOn again:Bool} {args:Array Value} {ds gs:List (DataW H)} {before:List MemPlace}
  (hl:laidOutB P=true) (CG:∀t∈f.params.toList,P.readableRec t=true/\t < P.types.size) {tb:TypeId} (hr:f.resultTypes=#[tb]) (J0:P.underlying tb=some .bool)
  (wz:s.vars=[]) (gu:(s.fn H (ds++gs)).results=[.lit (.bool true)]) (lB:(s.fn H (ds++gs)).args=ds) (qc:(s.fn H (ds++gs)).vars=[])
  (hW:DataW.Whole enc P f.params.toList s.vars false W args.toList ds gs before) (hb:Below W.heap.size W W') :
  s.post enc P f false fresh handsOn again W args (.bool true) W':=by
 obtain ⟨p,q,hA,hV,e,J1,ff⟩:=hW
 have hq:q=[]:=by
  rw [wz] at hV
  cases gs with
  | nil=>exact hV
  | cons g gs=>exact hV.elim
 subst hq
 have hp:before=p:=by rw [e];simp
 subst hp
 have aP:=DataW.Whole.lt ⟨before,[],hA,hV,by simp,J1,ff⟩
 have hR:∀(b:Nat) (sp:Nat->Bool) (hd:Bool),DataW.TrodAll enc P W' b sp hd f.resultTypes.toList ((Value.bool true).resultList f.resultTypes.size) (s.fn H (ds++gs)).results []:=by
  intro b sp hd
  rw [hr,gu]
  exact trodAll_cons_mk (shut_bool J0 _) trodAll_mk0
 have Zz:∀sp:Nat->Bool,(∀p∈before,sp p.block=true)->DataW.TrodAll enc P W' 0 sp true f.params.toList args.toList (s.fn H (ds++gs)).args before:=by
  intro sp hs
  rw [lB]
  exact QW hl hb CG hA aP hs
 have ZA:∀sp:Nat->Bool,DataW.TrodVars enc P W' sp s.vars (s.fn H (ds++gs)).vars []:=by
  intro sp
  rw [wz,qc]
  rfl
 refine ⟨ds,gs,before,[],before,[],⟨before,[],hA,hV,by simp,J1,ff⟩,hR _ _ _,Zz _ (λp hp=>by simpa using aP p hp),ZA _,hb.frame _,λ_=>?_⟩
 refine ⟨?_,_,_,([]++before)++[],⟨[]++before,[],trodAll_append (Zz _ (λ_ _=>rfl)) (hR _ _ _),ZA _,rfl,?_,?_⟩,?_⟩
 ·exact ok_one hr rfl (okWide_bool_mk J0 _)
 ·intro b off hp
  have hp:MemPlace.cell b off∈before:=by simpa using hp
  rw [hb.frozen (aP _ hp)]
  exact J1 b off hp
 ·intro ha;cases ha
 ·intro p hp _
  simpa using hp
theorem aaV {w w':World} (h:(gL w).gR w') (h1:w'.os=w.os) (h2:w'.tape=w.tape) (h3:w'.output=w.output):Below w.heap.size w w':=by
 have g:=GO h h1 h2 h3
 exact ⟨g.os,g.tape,g.output,g.size,λk hk=>g.block k hk (by simp)⟩
theorem adq {S:Spec} {fid:FuncId} (h:cY P fid S) (a:S.α) (ha:S.pre a) (gu:S.res a=.bc true) {w:World} {vals:List Value} (iX:dg (gL w) (S.args a) vals) :
  Calls P fid vals.toArray w λe w'=>e=.returned (.bool true)/\Below w.heap.size w w':=by
 refine (h.run a ha (gL w) (gL w) w vals (wV w) (wV w) iX).mono ?_
 rintro e w' ⟨v,H',rfl,_,_,hF,_,hv,h1,h2,h3⟩
 rw [gu] at hv
 simp only [rel] at hv
 subst hv
 exact ⟨rfl,aaV hF h1 h2 h3⟩
end
theorem Jh {a b:Nat}:(Nat.beq a b=true)=(a=b):=propext ⟨lU,λh=>h ▸ LM a⟩
inductive Ty where
 | int (k:IntKind)
 | bool
 | str
 | sl (e:Ty)
 | unit
 | pair (a b:Ty)
abbrev Ty.ow:Ty->Type
 | .int _=>Int
 | .bool=>Bool
 | .str=>ByteArray
 | .sl e=>List e.ow
 | .unit=>Unit
 | .pair a b=>a.ow × b.ow
def Ty.size:Ty->Nat
 | .unit=>0
 | .pair a b=>a.size+b.size
 | _=>1
def Ty.cells:(T:Ty)->T.ow->List SV
 | .int k,n=>[.i k λ_=>n]
 | .bool,b=>[.b λ_=>b]
 | .str,s=>[.str λ_=>s]
 | .sl e,xs=>[.sl e.size e.cells λ_=>xs]
 | .unit,_=>[]
 | .pair a b,x=>a.cells x.1++b.cells x.2
def Ty.wf:(T:Ty)->T.ow->Prop
 | .int k,n=>k.min<=n/\n<=k.max
 | .bool,_=>True
 | .str,s=>s.size<=maxLen
 | .sl e,xs=>xs.length<=maxLen/\∀x∈xs,e.wf x
 | .unit,_=>True
 | .pair a b,x=>a.wf x.1/\b.wf x.2
def Ty.arg:(T:Ty)->T.ow->SV
 | .int k,n=>.i k λ_=>n
 | .bool,b=>.b λ_=>b
 | .str,s=>.str λ_=>s
 | .sl e,xs=>.sl e.size e.cells λ_=>xs
 | .unit,_=>.agg []
 | .pair a b,x=>.agg (a.cells x.1++b.cells x.2)
theorem Ty.lf:∀(T:Ty) (x:T.ow),cj (T.cells x)
 | .int k,n=>⟨trivial,trivial⟩
 | .bool,b=>⟨trivial,trivial⟩
 | .str,s=>⟨trivial,trivial⟩
 | .sl e,xs=>⟨λx=>e.lf x,trivial⟩
 | .unit,_=>trivial
 | .pair a b,x=>K0 (a.lf x.1) (b.lf x.2)
def pd (T:Ty):Nat->Ty
 | 0=>.unit
 | n+1=>.pair T (pd T n)
def za (r:TypeId->Option Ty) (c:TypeId->Nat):Nat->List Field->Option Ty
 | _,[]=>some .unit
 | o,f :: fs =>
  match r f.type with
  | some T=>match Nat.beq f.offset o&&Nat.beq (c f.type) T.size with
   | true=>match za r c (o+T.size) fs with
    | some U=>some (.pair T U)
    | none=>none
   | false=>none
  | none=>none
def uL (P:Program):Nat->TypeId->Option Ty
 | 0,_=>none
 | n+1,t=>match P.underlying t with
  | some (.int k)=>some (.int k)
  | some .bool=>some .bool
  | some .string=>some .str
  | some (.slice e)=>match uL P n e with
   | some T=>match Nat.beq (P.cellsOf e) T.size&&Nat.blt 0 T.size with
    | true=>some (.sl T)
    | false=>none
   | none=>none
  | some (.struct fs)=>match za (uL P n) P.cellsOf 0 fs.toList with
   | some T=>match Nat.beq (P.cellsOf t) T.size with
    | true=>some T
    | false=>none
   | none=>none
  | some (.array m e)=>match uL P n e with
   | some T=>match Nat.beq (P.cellsOf e) T.size&&Nat.beq (P.cellsOf t) (m*T.size) with
    | true=>some (pd T m)
    | false=>none
   | none=>none
  | _=>none
theorem Q9 {α:Type} {p:Nat->α->Prop}:∀(n:Nat),(∀i,i < n->∃y,p i y)->∃ys:List α,ys.length=n/\∀i y,ys[i]?=some y->p i y
 | 0,_=>⟨[],rfl,λi y h=>by simp at h⟩
 | n+1,h=>by
  obtain ⟨ys,h1,h2⟩:=Q9 n λi hi=>h i (by omega)
  obtain ⟨y,hy⟩:=h n (by omega)
  refine ⟨ys++[y],by simp [h1],λi z hz=>?_⟩
  rw [DC] at hz
  split at hz
  ·exact h2 i z hz
  ·rename_i hi
   have:i=n:=by
    have:=(bf.1 hz).1
    simp at this;omega
   subst this
   simp [h1] at hz
   subst hz;exact hy
section
variable {H:Type} {enc:TypeId × Value->H} {P:Program} {W:World} {base:Nat} {sp:Nat->Bool} {held:Bool}
def Nt (enc:TypeId × Value->H) (P:Program) (W:World) (base:Nat) (sp:Nat->Bool) (held:Bool) (m:Nat) (t:TypeId) (T:Ty):Prop :=
 ∀cs x,DataW.trod enc P W base sp held m t cs=some x->∃y:T.ow,T.wf y/\cs.length=T.size/\dg (gL W) (T.cells y) cs
theorem Rb {n m:Nat} (ih:∀t T,uL P n t=some T->Nt enc P W base sp held m t T):∀(fs:List Field) (o:Nat) (T:Ty) (cs:List Value) (xs:List (DataW H × List MemPlace)),
  za (uL P n) P.cellsOf o fs=some T->fs.mapM (λf=>DataW.trod enc P W base sp held m f.type ((cs.drop f.offset).take (P.cellsOf f.type)))=some xs->cs.length=o+T.size ->
  ∃y:T.ow,T.wf y/\dg (gL W) (T.cells y) (cs.drop o)
 | [],o,T,cs,xs,h,_,hl=>by
  simp [za] at h;subst h
  refine ⟨(),trivial,?_⟩
  have:cs.drop o=[]:=by simp;simp [Ty.size] at hl;omega
  rw [this];simp [Ty.cells,aL]
 | f :: fs,o,T,cs,xs,h,hm,hl=>by
  unfold za at h
  split at h<;>try (cases h;done)
  rename_i T1 h1
  split at h<;>try (cases h;done)
  rename_i h2
  split at h<;>try (cases h;done)
  rename_i U h3
  simp at h;subst h
  simp only [b9,Jh] at h2
  rw [DI] at hm
  simp only [bind,Lg,pure,pL] at hm
  obtain ⟨a,ha,as,has,rfl⟩:=hm
  rw [h2.1,h2.2] at ha
  obtain ⟨y,j2,oo,Pw⟩:=ih _ _ h1 _ _ ha
  simp only [Ty.size] at hl
  obtain ⟨z,x6,so⟩:=Rb ih fs (o+T1.size) U cs as h3 has (by omega)
  refine ⟨(y,z),⟨j2,x6⟩,?_⟩
  have e:cs.drop o=(cs.drop o).take T1.size++cs.drop (o+T1.size):=by rw [<-List.drop_drop,List.take_append_drop]
  rw [e]
  exact gV Pw so
theorem SN {m c:Nat} {e:TypeId} {T:Ty} (ih:Nt enc P W base sp held m e T) (hc:c=T.size):∀(k o:Nat) (cs:List Value) (xs:List (DataW H × List MemPlace)),
  (List.range' o k).mapM (λi=>DataW.trod enc P W base sp held m e ((cs.drop (i*c)).take c))=some xs->cs.length=(o+k)*c ->
  ∃y:(pd T k).ow,(pd T k).wf y/\dg (gL W) ((pd T k).cells y) (cs.drop (o*c))
 | 0,o,cs,xs,_,hl=>by
  refine ⟨(),trivial,?_⟩
  have:cs.drop (o*c)=[]:=by simp;rw [hl];simp
  rw [this];simp [pd,Ty.cells,aL]
 | k+1,o,cs,xs,hm,hl=>by
  rw [List.range'_succ,DI] at hm
  simp only [bind,Lg,pure,pL] at hm
  obtain ⟨a,ha,as,has,rfl⟩:=hm
  obtain ⟨y,j2,oo,Pw⟩:=ih _ _ ha
  obtain ⟨z,x6,so⟩:=SN ih hc k (o+1) cs as has (by rw [hl];congr 1;omega)
  refine ⟨(y,z),⟨j2,x6⟩,?_⟩
  have e:cs.drop (o*c)=(cs.drop (o*c)).take c++cs.drop ((o+1)*c):=by
   rw [show (o+1)*c=o*c+c by rw [Nat.add_mul];omega,<-List.drop_drop,List.take_append_drop]
  rw [e]
  exact gV Pw so
theorem Ty.TS (T:Ty):∀k,(pd T k).size=k*T.size
 | 0=>by simp [pd,Ty.size]
 | k+1=>by simp only [pd,Ty.size];rw [Ty.TS T k,Nat.add_mul];omega
theorem opens:∀(n:Nat) (t:TypeId) (T:Ty),uL P n t=some T->∀m,Nt enc P W base sp held m t T
 | 0,t,T,h,_=>by cases h
 | n+1,t,T,h,0=>by
  intro cs x hx
  simp [DataW.trod] at hx
 | n+1,t,T,h,m+1=>by
  intro cs x hx
  unfold uL at h
  split at h
  ·rename_i k hk
   simp at h;subst h
   obtain ⟨z,rfl,_,hw⟩:=DataW.trod_int hk hx
   exact ⟨z,by simpa [Ty.wf,Lit.wf] using hw,rfl,by simp [Ty.cells,aL,rel]⟩
  ·rename_i hk
   simp at h;subst h
   obtain ⟨z,rfl,_⟩:=DataW.trod_bool hk hx
   exact ⟨z,trivial,rfl,by simp [Ty.cells,aL,rel]⟩
  ·rename_i hk
   simp at h;subst h
   obtain ⟨z,rfl,_,hw⟩:=DataW.trod_string hk hx
   exact ⟨z,hw,rfl,by simp [Ty.cells,aL,rel]⟩
  ·rename_i e hk
   split at h<;>try (cases h;done)
   rename_i E hE
   split at h<;>try (cases h;done)
   rename_i hc
   simp at h;subst h
   simp only [b9,Jh,Bh] at hc
   obtain ⟨hc,pW⟩:=hc
   have lf:∀x:E.ow,cj (E.cells x):=E.lf
   rcases DataW.trod_slice hk hx with ⟨rfl,_⟩|⟨a,len,cap,elems,rest,k,_,rfl,_,hb,hle,hm,hlen,Px,_⟩
   ·refine ⟨[],⟨cI _,by simp⟩,rfl,?_⟩
    simp only [Ty.cells,aL,rel]
    exact ⟨_,[],rfl,⟨⟨none,0,rfl,by simp,.inl trivial⟩,lf⟩,rfl⟩
   ·obtain ⟨ys,j2,oo⟩:=Q9 (p:=λi (y:E.ow)=>E.wf y/\∃us,W.cells? base (a.add (i*E.size)) E.size=some us/\us.length=E.size/\dg (gL W) (E.cells y) us) len (λi hi=>by
     have h1:=Px i hi
     rw [eG (by omega),hc] at h1
     rw [Lg] at h1
     obtain ⟨us,h2,h3⟩:=h1
     obtain ⟨y,h4,h5,h6⟩:=opens n e E hE k us _ h3
     exact ⟨y,h4,us,h2,h5,h6⟩)
    refine ⟨ys,⟨by omega,λx hx=>?_⟩,rfl,?_⟩
    ·obtain ⟨i,hi⟩:=qG hx
     exact (oo i x hi).1
    ·simp only [Ty.cells,aL,rel]
     refine ⟨_,[],rfl,⟨⟨some a,cap,by rw [j2],by rw [j2];exact hle,?_⟩,lf⟩,rfl⟩
     by_cases hz:ys=[]
     ·exact .inl hz
     right
     have h0:0 < ys.length:=by cases ys with|nil=>exact absurd rfl hz|cons=>simp
     have fx:a.spot=none:=by
      obtain ⟨_,us,h1,h2,_⟩:=oo 0 _ (eG h0)
      have h3:=(World.cells?_some h1).2.2 0 pW
      rw [Nat.zero_mul] at h3
      have po:W.cell? ((a.add 0).add 0)=some us[0]:=by rw [h3,eG (by omega)]
      unfold World.cell? at po
      split at po
      ·cases a with
       | mk b o s=>cases s<;>simp_all [Addr.add]
      ·cases po
     refine ⟨a,rfl,fx,λj x hx=>?_⟩
     obtain ⟨_,us,h1,h2,h3⟩:=oo j x hx
     refine ⟨us,h2,h3,λi u hu=>?_⟩
     have hi:i < E.size:=by rw [<-h2];exact (bf.1 hu).1
     have h4:=(World.cells?_some h1).2.2 i hi
     rw [hu,nK _ fx,qI] at h4
     exact abf h4
  ·rename_i fs hk
   split at h<;>try (cases h;done)
   rename_i U hU
   split at h<;>try (cases h;done)
   rename_i hc
   simp at h;subst h
   simp only [Jh] at hc
   rw [DataW.trod_step] at hx
   unfold DataW.trodStep at hx
   simp only [hk] at hx
   split at hx<;>try (cases hx;done)
   rename_i hl
   simp only [Bs] at hx
   obtain ⟨xs,hx,_⟩:=hx
   obtain ⟨y,h1,h2⟩:=Rb (λt T hT=>opens n t T hT m) fs.toList 0 U cs xs hU hx (by omega)
   exact ⟨y,h1,by omega,by simpa using h2⟩
  ·rename_i k e hk
   split at h<;>try (cases h;done)
   rename_i E hE
   split at h<;>try (cases h;done)
   rename_i hc
   simp at h;subst h
   simp only [b9,Jh] at hc
   rw [DataW.trod_step] at hx
   unfold DataW.trodStep at hx
   simp only [hk] at hx
   split at hx<;>try (cases hx;done)
   rename_i hl
   simp only [Bs] at hx
   obtain ⟨xs,hx,_⟩:=hx
   rw [hc.1,List.range_eq_range'] at hx
   obtain ⟨y,h1,h2⟩:=SN (opens n e E hE m) rfl k 0 cs xs hx (by rw [hl,hc.2];simp)
   exact ⟨y,h1,by rw [Ty.TS];omega,by simpa using h2⟩
  ·cases h
theorem aeA {n:Nat} {t:TypeId} {T:Ty} (hT:uL P n t=some T) {r:Reach} {b0:Nat} {v:Value} {d:DataW H} {ps:List MemPlace} (tB:Value.okWide P W r b0 t v) (hd:DataW.Trod enc P W base sp held t v d ps) :
  ∃y:T.ow,T.wf y/\dg (gL W) [T.arg y] [v]:=by
 obtain ⟨fuel,hf⟩:=hd
 obtain ⟨y,h1,h2,h3⟩:=opens n t T hT fuel _ _ hf
 refine ⟨y,h1,?_⟩
 have agg:∀cs:Array Value,v=.agg cs->dg (gL W) [SV.agg (T.cells y)] [v]:=by
  rintro cs rfl
  simp only [aL,rel]
  exact ⟨_,[],rfl,⟨cs.toList,rfl,h3⟩,rfl⟩
 have one:(∀cs:Array Value,v≠.agg cs)->dg (gL W) (T.cells y) [v]:=by
  intro hn
  have:v.cells.toList=[v]:=by
   cases v<;>try rfl
   rename_i cs;exact absurd rfl (hn cs)
  rw [this] at h3;exact h3
 cases n with
 | zero=>cases hT
 | succ n =>
  unfold uL at hT
  split at hT
  ·rename_i k hk
   simp at hT;subst hT
   obtain ⟨z,rfl⟩:=okWide_int hk tB
   exact one (by simp)
  ·rename_i hk
   simp at hT;subst hT
   obtain ⟨z,rfl⟩:=okWide_bool hk tB
   exact one (by simp)
  ·rename_i hk
   simp at hT;subst hT
   obtain ⟨z,rfl⟩:=okWide_string hk tB
   exact one (by simp)
  ·rename_i e hk
   split at hT<;>try (cases hT;done)
   split at hT<;>try (cases hT;done)
   simp at hT;subst hT
   obtain ⟨a,len,cap,rfl⟩:=okWide_slice hk tB
   exact one (by simp)
  ·rename_i fs hk
   have N7:∃cs,v=.agg cs:=by
    simp only [Value.okWide,hk] at tB
    obtain ⟨cs,h,_⟩:=tB
    exact ⟨cs,h⟩
   obtain ⟨cs,fQ⟩:=N7
   split at hT<;>try (cases hT;done)
   rename_i U hU
   split at hT<;>try (cases hT;done)
   simp at hT;subst hT
   have:U.arg y=.agg (U.cells y):=by
    generalize fs.toList=l at hU
    cases l with
    | nil=>simp [za] at hU;subst hU;rfl
    | cons f r =>
     unfold za at hU
     split at hU<;>try (cases hU;done)
     split at hU<;>try (cases hU;done)
     split at hU<;>try (cases hU;done)
     simp at hU;subst hU;rfl
   rw [this]
   exact agg cs fQ
  ·rename_i k e hk
   have N7:∃cs,v=.agg cs:=by
    simp only [Value.okWide,hk] at tB
    obtain ⟨cs,h,_⟩:=tB
    exact ⟨cs,h⟩
   obtain ⟨cs,fQ⟩:=N7
   split at hT<;>try (cases hT;done)
   split at hT<;>try (cases hT;done)
   simp at hT;subst hT
   rename_i E _ _ _
   have:(pd E k).arg y=.agg ((pd E k).cells y):=by
    cases k<;>rfl
   rw [this]
   exact agg cs fQ
  ·cases hT
end
end Go.Vc
