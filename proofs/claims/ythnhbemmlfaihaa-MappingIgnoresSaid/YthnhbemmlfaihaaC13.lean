import Derived.Test.YthnhbemmlfaihaaC11
import Derived.Test.YthnhbemmlfaihaaC12
import Derived.KernelRfl
import Derived.Carry
import Derived.ProofKit
import Derived.OpenShut
set_option linter.unusedVariables false
set_option linter.unusedSimpArgs false
set_option maxRecDepth 10000
set_option maxHeartbeats 64000000
namespace Go.Vc
open Go Go.ChangeShapes Go.WideShapes Go.ChangeAt Go.RowKit
def Wi (P:Program) (t:TypeId):TD->Bool
 | .int k=>match P.underlying t with|some (.int k')=>k == k'|_=>false
 | .bool=>match P.underlying t with|some .bool=>true|_=>false
 | .str=>match P.underlying t with|some .string=>true|_=>false
 | .sl e=>match P.underlying t with|some (.slice e')=>e == e'|_=>false
 | .ptr e=>match P.underlying t with|some (.pointer e')=>e == e'|_=>false
 | .st gs=>match P.underlying t with
  | some (.struct fs)=>(fs.toList.map λf=>(f.type,f.offset,P.cellsOf f.type)) == gs&&gs.all (λg=>Nat.blt 0 g.2.2)
  | _=>false
 | .arr n e=>match P.underlying t with|some (.array n' e')=>n == n'&&e == e'|_=>false
 | .map k v=>match P.underlying t with|some (.map k' v')=>k == k'&&v == v'|_=>false
 | .other=>match P.underlying t with|some (.struct _)=>false|some (.array _ _)=>false|some _=>true|none=>false
def Pl (P:Program) (t:TypeId) (i:TI):Bool :=
 (match P.info? t with|some inf=>inf.size == i.size&&inf.bytes == i.bytes|none=>false)&&i.zero.cells.size == i.size&&Nat.blt 0 i.size&&Wi P t i.d
theorem Ut {P:Program} {t:TypeId} {i:TI} (hz:(P.info? t).map (·.zero)=some (some i.zero)) (hb:Pl P t i=true)
  (hf:i.flat=true->i.agg=true/\∀(vs us:List Value) (w:World),vs.length=i.size->us.length=i.size ->
   nM vs us=true->nM vs i.zero.cells.toList=true->∀op x y,(op=.eql\/op=.neq) ->
   (do eqGuard op t x y (.agg vs.toArray) (.agg us.toArray);binOp op t (.agg vs.toArray) (.agg us.toArray):Sem Value).run P w =
    .ok (.bool (if op=.eql then pP vs us else !pP vs us)) w)
  (hk:∀ks,i.kd=some ks->xE P t (.ints ks):=by intro _ h;cases h):kR P t i:=by
 unfold Pl at hb
 simp only [cf,beq_iff_eq] at hb
 obtain ⟨⟨⟨h1,h2⟩,h3⟩,h4⟩:=hb
 refine ⟨?_,h2,by simpa [A7] using h3,?_,hf,hk⟩
 ·cases hi:P.info? t with
  | none=>rw [hi] at hz;cases hz
  | some inf =>
   rw [hi] at hz h1
   simp at hz h1
   exact ⟨inf,rfl,h1.1,h1.2,hz⟩
 ·cases hd:i.d<;>rw [hd] at h4<;>simp only [Wi] at h4 ⊢
  case int k=>split at h4<;>first|(simp at h4;subst h4;assumption)|cases h4
  case bool=>split at h4<;>first|assumption|cases h4
  case str=>split at h4<;>first|assumption|cases h4
  case sl e=>split at h4<;>first|(simp at h4;subst h4;assumption)|cases h4
  case ptr e=>split at h4<;>first|(simp at h4;subst h4;assumption)|cases h4
  case arr n e=>split at h4<;>first|(simp at h4;obtain ⟨rfl,rfl⟩:=h4;assumption)|cases h4
  case map k v=>split at h4<;>first|(simp at h4;obtain ⟨rfl,rfl⟩:=h4;assumption)|cases h4
  case st gs =>
   split at h4
   ·rename_i fs hu
    simp only [cf,beq_iff_eq,gK] at h4
    obtain ⟨e,pU⟩:=h4
    refine ⟨fs,hu,by rw [<-e];simp,λj f hj=>?_⟩
    have hg:gs[j]?=some (f.type,f.offset,P.cellsOf f.type):=by rw [<-e];simp [hj]
    have hp:=pU _ (cL hg)
    unfold Program.cellsOf at hp hg
    cases hi:P.info? f.type with
    | none=>rw [hi] at hp;simp [A7] at hp
    | some inf =>
     rw [hi] at hp hg
     refine ⟨inf,rfl,?_,by simpa using hg⟩
     have:0 < inf.size:=by simpa [A7] using hp
     omega
   ·cases h4
  case other =>
   split at h4
   ·cases h4
   ·cases h4
   ·rename_i d h5 h6 hu
    exact ⟨d,hu,λx e=>h5 x e,λn e' e=>h6 n e' e⟩
   ·cases h4
theorem Uu {P : Program} {f : FuncId} {fn : Func} (h : P.funcs[f]? = some fn) (hb : (fn.body.isSome && !(fn.name == "runtime.NumGoroutine")) = true) : kA P f fn := by
 simp only [cf,nK] at hb
 exact ⟨h,hb.1,hb.2⟩
theorem ei {n:Int} (h1:-9223372036854775808<=n) (h2:n<=9223372036854775807):IntKind.i64.wrap n=n:=by
 rw [IntKind.wrap_i64]
 omega
def B3 (P:Program) (t:TypeId) (z:Value):Bool :=
 match P.underlying t,z with
 | some (.int _),.int _ _=>true
 | some .bool,.bool _=>true
 | some .string,.string _=>true
 | _,_=>false
section
variable {P:Program}
theorem abE {t:TypeId} {z:Value} (hf:B3 P t z=true) (d:Nat) (a b:Value) (h:rK a b=true) (hz:rK a z=true) (w:World) :
  (Op.equalIn (d+1) t a b).run P w=.ok (xD a b) w:=by
 unfold B3 at hf
 split at hf
 ·rename_i k k' n hu
  cases a<;>simp [rK] at hz
  cases b<;>simp [rK] at h
  subst h
  simp [Op.equalIn,run_underlying hu,xD]
 ·rename_i c hu
  cases a<;>simp [rK] at hz
  cases b<;>simp [rK] at h
  simp [Op.equalIn,run_underlying hu,xD]
 ·rename_i c hu
  cases a<;>simp [rK] at hz
  cases b<;>simp [rK] at h
  simp [Op.equalIn,run_underlying hu,xD]
 ·cases hf
theorem Mj {t:TypeId} {z:Value} (hf:B3 P t z=true) (cs:Array Value) (off:Nat) (v:Value) (hv:cs[off]?=some v) (w:World):(part t cs off).run P w=.ok v w:=by
 unfold B3 at hf
 split at hf
 ·rename_i k k' n hu;simp [part,isAgg,run_underlying hu,hv]
 ·rename_i c hu;simp [part,isAgg,run_underlying hu,hv]
 ·rename_i c hu;simp [part,isAgg,run_underlying hu,hv]
 ·cases hf
def ux (P:Program):List Field->List Value->Nat->Bool
 | [],[],_=>true
 | f :: fs, z :: zs, off => f.offset == off && !(f.name == "_") && B3 P f.type z && ux P fs zs (off + 1)
 | _,_,_=>false
theorem KG (d:Nat) (xs ys:Array Value):∀(fs:List Field) (zs vs us:List Value) (off:Nat),ux P fs zs off=true->xs.toList.drop off=vs->ys.toList.drop off=us->nM vs us=true->nM vs zs=true ->
  ∀w,(Op.eqFields (d+1) xs ys fs).run P w=.ok (pP vs us) w
 | [],zs,vs,us,off,hs,hx,hy,h1,h2,w=>by
  cases zs with
  | cons _ _=>simp [ux] at hs
  | nil =>
   cases vs with
   | cons _ _=>simp [nM] at h2
   | nil=>simp [Op.eqFields,pP]
 | f :: fs,[],vs,us,off,hs,hx,hy,h1,h2,w=>by simp [ux] at hs
 | f :: fs,z :: zs,vs,us,off,hs,hx,hy,h1,h2,w=>by
  simp only [ux,cf,beq_iff_eq,nK] at hs
  obtain ⟨⟨⟨ho,hn⟩,hf⟩,hs⟩:=hs
  cases vs with
  | nil=>simp [nM] at h2
  | cons v vs =>
   cases us with
   | nil=>simp [nM] at h1
   | cons u us =>
    simp only [nM,cf] at h1 h2
    have Pm:xs[off]?=some v:=by
     have:=congrArg (λl=>l[0]?) hx
     simp only [jk,DK,rF] at this
     simpa using this
    have hux:ys[off]?=some u:=by
     have:=congrArg (λl=>l[0]?) hy
     simp only [jk,DK,rF] at this
     simpa using this
    have lF:xs.toList.drop (off+1)=vs:=by rw [<-List.drop_drop,hx];rfl
    have qd:ys.toList.drop (off+1)=us:=by rw [<-List.drop_drop,hy];rfl
    have ih:=KG d xs ys fs zs vs us (off+1) hs lF qd h1.2 h2.2 w
    have qb : f.name ≠ "_" := by simpa using hn
    simp only [Op.eqFields]
    rw [if_pos qb]
    simp only [Sem.run_bind,ho,Mj hf xs off v Pm,Mj hf ys off u hux,Result.andThen_ok,abE hf d v u h1.1 h2.1,pP]
    cases hq:xD v u
    ·simp
    ·simpa using ih
theorem abf {t:TypeId} {zs:List Value} (hu:P.underlying t=some (.struct (P.fieldsOf t))) (hp:P.stoodInHeld t=false) (hg:P.eqGuardType P.depth t=false) (hs:ux P (P.fieldsOf t).toList zs 0=true)
  (vs us:List Value) (w:World) (h1:nM vs us=true) (h2:nM vs zs=true) (op:BinOp) (x y:Operand) (e8:op=.eql\/op=.neq) :
  (do eqGuard op t x y (.agg vs.toArray) (.agg us.toArray);binOp op t (.agg vs.toArray) (.agg us.toArray):Sem Value).run P w=.ok (.bool (if op=.eql then pP vs us else !pP vs us)) w:=by
 have he:=KG (P:=P) 9998 vs.toArray us.toArray (P.fieldsOf t).toList zs vs us 0 hs (by simp) (by simp) h1 h2 w
 have hr:=run_equalIn_struct w 9999 t vs.toArray us.toArray hu hp
 rcases e8 with rfl|rfl
 ·simp only [Sem.run_bind,run_eqGuard_agg w _ t x y _ _ hg,Result.andThen_ok,run_eql_struct w]
  rw [hr,he];rfl
 ·simp only [Sem.run_bind,run_eqGuard_agg w _ t x y _ _ hg,Result.andThen_ok,run_neq_struct w]
  rw [hr,he];rfl
theorem LP:∀{ks:List IntKind} {l l':List Int},l.length=ks.length->l'.length=ks.length->nM (eP ks l) (eP ks l')=true
 | [],[],[],_,_=>rfl
 | k :: ks,a :: l,b :: l',h,h'=>by
  simp only [eP,nM,rK,beq_self_eq_true,Dy]
  exact LP (by simpa using h) (by simpa using h')
 | [],_ :: _,_,h,_=>by simp at h
 | [],[],_ :: _,_,h=>by simp at h
 | _ :: _,[],_,h,_=>by simp at h
 | _ :: _,_ :: _,[],_,h=>by simp at h
theorem SG:∀ks:List IntKind,(ks.map λk=>Value.int k 0)=eP ks (ks.map λ_=>0)
 | []=>rfl
 | k :: ks=>by simp only [il,eP,SG ks]
theorem Uv:∀{ks:List IntKind} {l l':List Int},l.length=ks.length->l'.length=ks.length->pP (eP ks l) (eP ks l')=decide (l=l')
 | [],[],[],_,_=>rfl
 | k :: ks,a :: l,b :: l',h,h'=>by
  simp only [eP,pP,xD,Uv (ks:=ks) (l:=l) (l':=l') (by simpa using h) (by simpa using h'),Hb]
  by_cases e:a=b<;>simp [e]
 | [],_ :: _,_,h,_=>by simp at h
 | [],[],_ :: _,_,h=>by simp at h
 | _ :: _,[],_,h,_=>by simp at h
 | _ :: _,_ :: _,[],_,h=>by simp at h
theorem QF (em:Bool) (cs:Array Value):∀(fs:List Field) (ks:List IntKind) (l:List Int) (off:Nat),ux P fs (ks.map λk=>.int k 0) off=true->cs.toList.drop off=eP ks l->l.length=ks.length ->
  ∀ w, (forIn (m := Sem) fs PUnit.unit λf _ => if f.name ≠ "_" then (do Instr.checkKey em 9999 f.type (<- part f.type cs f.offset); pure (ForInStep.yield PUnit.unit)) else pure (ForInStep.yield PUnit.unit)).run P w = .ok PUnit.unit w
 | [],ks,l,off,_,_,_,w=>by simp
 | f :: fs,[],l,off,hs,_,_,w=>by simp [ux] at hs
 | f :: fs,k :: ks,[],off,_,_,h,w=>by simp at h
 | f :: fs,k :: ks,a :: l,off,hs,hx,hl,w=>by
  simp only [ux,il,cf,beq_iff_eq,nK] at hs
  obtain ⟨⟨⟨ho,hn⟩,hf⟩,hs⟩:=hs
  have Pm:cs[off]?=some (.int k a):=by
   have:=congrArg (λl=>l[0]?) hx
   simp only [jk,eP,DK,rF] at this
   simpa using this
  have lF:cs.toList.drop (off+1)=eP ks l:=by rw [<-List.drop_drop,hx];rfl
  have ih:=QF em cs fs ks l (off+1) hs lF (by simpa using hl) w
  have qb : f.name ≠ "_" := by simpa using hn
  have hk:P.underlying f.type=some (.int k)\/∃k',P.underlying f.type=some (.int k'):=by
   unfold B3 at hf
   split at hf
   ·rename_i k0 k' n hu _;exact .inr ⟨_,hu⟩
   ·rename_i e;cases e
   ·rename_i e;cases e
   ·cases hf
  have Fz:∀w,(Instr.checkKey em 9999 f.type (.int k a)).run P w=.ok () w:=λw=>by
   show (Instr.checkKey em (9998+1) f.type (.int k a)).run P w=_
   rw [Instr.checkKey]
   rcases hk with hk|⟨k',hk⟩<;>simp only [Sem.run_bind,run_underlying hk,Result.andThen_ok]<;>rfl
  rw [List.forIn_cons]
  simp only [qb,ne_eq,not_false_eq_true,if_true,Sem.run_bind,ho,Mj hf cs off _ Pm,Result.andThen_ok,Fz,Sem.run_pure]
  exact ih
theorem abF {t:TypeId} {ks:List IntKind} (hu:P.underlying t=some (.struct (P.fieldsOf t))) (hp:P.stoodInHeld t=false) (hs:ux P (P.fieldsOf t).toList (ks.map λk=>.int k 0) 0=true):xE P t (.ints ks) where
 check:=λn hn em w=>by
  have h:=QF (P:=P) em (eP ks n).toArray (P.fieldsOf t).toList ks n 0 hs (by simp) hn w
  show (Instr.checkKey em (9999+1) t (.agg (eP ks n).toArray)).run P w=_
  rw [Instr.checkKey]
  simp only [Sem.run_bind,run_underlying hu,Result.andThen_ok]
  rw [<-Array.forIn_toList]
  simp at h ⊢
  rw [h]
  rfl
 find:=λn hn es Ys w=>by
  have eq:∀(n':List Int),n'.length=ks.length->(Op.equal t (.agg (eP ks n).toArray) (.agg (eP ks n').toArray)).run P w=.ok (decide (n=n')) w:=by
   intro n' lH
   have he:=KG (P:=P) 9998 (eP ks n).toArray (eP ks n').toArray (P.fieldsOf t).toList _ (eP ks n) (eP ks n') 0 hs (by simp) (by simp) (LP hn lH) (by rw [SG];exact LP hn (by simp)) w
   have hr:=run_equalIn_struct w 9999 t (eP ks n).toArray (eP ks n').toArray hu hp
   unfold Op.equal
   rw [show Op.maxDepth=9999+1 from rfl,hr,he,Uv hn lH]
  have ask:∀(es:List MapEntry) (i:Nat),(∀e∈es,∃n',KD.ok (.ints ks) n'/\e.key=KD.enc (.ints ks) n')->((Instr.findAsking t (.agg (eP ks n).toArray) es i).run P w=.ok none w/\∀e∈es,e.key≠.agg (eP ks n).toArray) \/
    ∃j e,(Instr.findAsking t (.agg (eP ks n).toArray) es i).run P w=.ok (some (i+j,e.val)) w/\es[j]?=some e/\e.key=.agg (eP ks n).toArray:=by
   intro es
   induction es with
   | nil=>intro i _;exact .inl ⟨by simp [Instr.findAsking],by simp⟩
   | cons e es ih =>
    intro i h
    obtain ⟨n',h1,h2⟩:=h e (by simp)
    have h2:e.key=.agg (eP ks n').toArray:=h2
    have hq:=eq n' h1
    by_cases qb:n=n'
    ·right
     refine ⟨0,e,?_,rfl,by rw [h2,qb]⟩
     have hd:decide (n=n')=true:=by simpa using qb
     simp only [Instr.findAsking,Sem.run_bind,h2,hq,hd,Result.andThen_ok]
     simp
    ·have bM:e.key≠.agg (eP ks n).toArray:=by
      rw [h2]
      intro h3
      exact qb (KD.inj (k:=.ints ks) h1 hn h3).symm
     have hd:decide (n=n')=false:=by simpa using qb
     rcases ih (i+1) (λe he=>h e (by simp [he])) with ⟨g1,g2⟩|⟨j,e',g1,g2,g3⟩
     ·left
      refine ⟨?_,?_⟩
      ·simp only [Instr.findAsking,Sem.run_bind,h2,hq,hd,Result.andThen_ok]
       simpa using g1
      ·intro e' fc
       rcases cj.1 fc with rfl|fc
       ·exact bM
       ·exact g2 e' fc
     ·right
      refine ⟨j+1,e',?_,by simpa using g2,g3⟩
      simp only [Instr.findAsking,Sem.run_bind,h2,hq,hd,Result.andThen_ok]
      rw [show i+(j+1)=i+1+j by omega]
      simpa using g1
  show ((Instr.findKey t (.agg (eP ks n).toArray) es).run P w=.ok none w/\_)\/_
  have base:(Instr.findKey t (.agg (eP ks n).toArray) es).run P w=(Instr.findAsking t (.agg (eP ks n).toArray) es 0).run P w\/es=[]:=by
   cases es with
   | nil=>exact .inr rfl
   | cons e es =>
    left
    obtain ⟨n',h1,h2⟩:=Ys e (by simp)
    have h2:e.key=.agg (eP ks n').toArray:=h2
    simp [Instr.findKey,run_underlying hu,Instr.findNow,h2,Instr.sameNow]
  rcases base with hb|rfl
  ·rcases ask es 0 Ys with ⟨g1,g2⟩|⟨j,e,g1,g2,g3⟩
   ·exact .inl ⟨hb.trans g1,g2⟩
   ·exact .inr ⟨j,e,hb.trans (by simpa using g1),g2,g3⟩
  ·left
   refine ⟨?_,by simp⟩
   simp [Instr.findKey,run_underlying hu,Instr.findNow]
 stays:=λn hn w=>by
  have all:∀(ks:List IntKind) (l:List Int),((eP ks l).zip (eP ks l)).all (λ(x,y)=>Instr.sameBits 9999 x y)=true:=by
   intro ks
   induction ks with
   | nil=>intro l;cases l<;>rfl
   | cons k ks ih =>
    intro l
    cases l with
    | nil=>rfl
    | cons a l =>
     simp only [eP,List.zip_cons_cons,yS,ih l,LA]
     simp [Instr.sameBits]
  have hs:Instr.sameBits 10000 (.agg (eP ks n).toArray) (.agg (eP ks n).toArray)=true:=by
   rw [show (10000:Nat)=9999+1 from rfl,Instr.sameBits]
   simpa using all ks n
  show (Instr.keyThatStays (.agg (eP ks n).toArray) (.agg (eP ks n).toArray)).run P w=_
  unfold Instr.keyThatStays
  rw [if_pos hs]
  rfl
end
universe u
def CA {α:Type u}:List (Nat × α)->Nat->Option α
 | [],_=>none
 | (k,x) :: r,n=>match Nat.beq k n with
  | true=>some x
  | false=>CA r n
def uV {α:Type u} (p:Nat->α->Prop):List (Nat × α)->Prop
 | []=>True
 | (k,x) :: r=>p k x/\uV p r
theorem HC {α:Type u} {p:Nat->α->Prop}:∀{l:List (Nat × α)},uV p l->∀f x,CA l f=some x->p f x
 | [],_,f,x,h=>by simp [CA] at h
 | (k,y) :: r,ha,f,x,h=>by
  simp only [CA] at h
  split at h
  ·rename_i e
   simp at h;subst h
   have:=lP e
   subst this
   exact ha.1
  ·exact HC ha.2 f x h
theorem Xa (n:Nat):(NatCast.natCast n:Int)=(n:Int):=rfl
theorem tN {p:Prop} (h:p:=by ((try simp only [Go.Vc.Xa] at *);omega)):p:=h
theorem oo0 {p:Prop} (h:p:=by omega):p:=h
theorem wA {p:Prop} (h:p:=by (((repeat' first|exact cH.nil|exact Le.refl _|refine cH.cons ?_ ?_|exact Le.ic rfl|exact Le.bc rfl|exact Le.i rfl|exact Le.b rfl|exact Le.sl rfl|exact Le.mp rfl|exact Le.fu rfl|exact Le.nX rfl|refine Le.cD rfl (λ_=>?_)|refine Le.dF rfl (λ_ _=>rfl) (λ_=>?_) ?_|refine Le.agg ?_|refine Le.bX ?_|refine Le.fn ?_ ?_|refine Le.cZ ?_|exact trivial|refine And.intro ?_ ?_|refine λ_=>?_|exact Le.any _))<;>(first|(refine Le.i ?_;first|exact bE|exact fO|exact iQ|exact jG|exact jH|exact Yt|exact Yu|exact hL|exact hL.symm|exact rfl)|(refine Le.sl ?_;first|exact iz|exact Aq|exact CD|exact CE|exact Yv|exact Yw|exact Yx|exact rfl)|(refine cm.map ?_;first|exact qW|exact Yy|exact Yz|exact YA|exact YB|exact YC|exact YD|exact rfl)|(refine cm.dyn ?_;first|exact YE|exact YF|exact YG|exact YH|exact YI|exact YJ|exact YK|exact rfl)|(refine Le.ic ?_;first|exact gE|exact yf|exact JF|exact YL|exact YM|exact YN|exact YO|exact rfl)|(refine Le.bc ?_;first|exact eR|exact YP|exact YQ|exact YR|exact YS|exact YT|exact YU|exact rfl)|(refine Le.b ?_;first|exact nq|exact YV|exact YW|exact YX|exact YY|exact YZ|exact Y1|exact rfl)|(refine Le.str ?_;first|exact Y2|exact Y3|exact Y4|exact Y5|exact Y6|exact Y7|exact Y8|exact rfl)|(refine Le.mp ?_;first|exact FE|exact Y9|exact Za|exact Zb|exact Zc|exact Zd|exact Ze|exact rfl)|exact eG|exact pv|exact uW|exact Zf|exact Zg|exact Zh|exact Zi|exact Wj 2 Zj|exact cm.iter rfl rfl (.inl rfl)))):p:=h
theorem a8 {p:Prop} (h:p:=by (((try cbv)<;>(repeat' (first|with_reducible exact trivial|with_reducible refine And.intro ?_ ?_))<;>(try first|exact cm.refl _|exact cm.dyn rfl|exact cm.map rfl|exact cm.iter rfl rfl (.inl rfl)|exact cm.iter rfl rfl (.inr rfl)|refine cm.fix ?_|refine cm.dyn ?_)<;>((repeat' first|exact cH.nil|exact Le.refl _|refine cH.cons ?_ ?_|exact Le.ic rfl|exact Le.bc rfl|exact Le.i rfl|exact Le.b rfl|exact Le.sl rfl|exact Le.mp rfl|exact Le.fu rfl|exact Le.nX rfl|refine Le.cD rfl (λ_=>?_)|refine Le.dF rfl (λ_ _=>rfl) (λ_=>?_) ?_|refine Le.agg ?_|refine Le.bX ?_|refine Le.fn ?_ ?_|refine Le.cZ ?_|exact trivial|refine And.intro ?_ ?_|refine λ_=>?_|exact Le.any _)))<;>(first|(refine Le.i ?_;first|exact bE|exact fO|exact iQ|exact jG|exact jH|exact Yt|exact Yu|exact hL|exact hL.symm|exact rfl)|(refine Le.sl ?_;first|exact iz|exact Aq|exact CD|exact CE|exact Yv|exact Yw|exact Yx|exact rfl)|(refine cm.map ?_;first|exact qW|exact Yy|exact Yz|exact YA|exact YB|exact YC|exact YD|exact rfl)|(refine cm.dyn ?_;first|exact YE|exact YF|exact YG|exact YH|exact YI|exact YJ|exact YK|exact rfl)|(refine Le.ic ?_;first|exact gE|exact yf|exact JF|exact YL|exact YM|exact YN|exact YO|exact rfl)|(refine Le.bc ?_;first|exact eR|exact YP|exact YQ|exact YR|exact YS|exact YT|exact YU|exact rfl)|(refine Le.b ?_;first|exact nq|exact YV|exact YW|exact YX|exact YY|exact YZ|exact Y1|exact rfl)|(refine Le.str ?_;first|exact Y2|exact Y3|exact Y4|exact Y5|exact Y6|exact Y7|exact Y8|exact rfl)|(refine Le.mp ?_;first|exact FE|exact Y9|exact Za|exact Zb|exact Zc|exact Zd|exact Ze|exact rfl)|exact eG|exact pv|exact uW|exact Zf|exact Zg|exact Zh|exact Zi|exact Wj 2 Zj|exact cm.iter rfl rfl (.inl rfl)))):p:=h
theorem bJ {p:Prop} (h:p:=by (((try cbv)<;>((repeat' first|exact cH.nil|exact Le.refl _|refine cH.cons ?_ ?_|exact Le.ic rfl|exact Le.bc rfl|exact Le.i rfl|exact Le.b rfl|exact Le.sl rfl|exact Le.mp rfl|exact Le.fu rfl|exact Le.nX rfl|refine Le.cD rfl (λ_=>?_)|refine Le.dF rfl (λ_ _=>rfl) (λ_=>?_) ?_|refine Le.agg ?_|refine Le.bX ?_|refine Le.fn ?_ ?_|refine Le.cZ ?_|exact trivial|refine And.intro ?_ ?_|refine λ_=>?_|exact Le.any _)))<;>(first|(refine Le.i ?_;first|exact bE|exact fO|exact iQ|exact jG|exact jH|exact Yt|exact Yu|exact hL|exact hL.symm|exact rfl)|(refine Le.sl ?_;first|exact iz|exact Aq|exact CD|exact CE|exact Yv|exact Yw|exact Yx|exact rfl)|(refine cm.map ?_;first|exact qW|exact Yy|exact Yz|exact YA|exact YB|exact YC|exact YD|exact rfl)|(refine cm.dyn ?_;first|exact YE|exact YF|exact YG|exact YH|exact YI|exact YJ|exact YK|exact rfl)|(refine Le.ic ?_;first|exact gE|exact yf|exact JF|exact YL|exact YM|exact YN|exact YO|exact rfl)|(refine Le.bc ?_;first|exact eR|exact YP|exact YQ|exact YR|exact YS|exact YT|exact YU|exact rfl)|(refine Le.b ?_;first|exact nq|exact YV|exact YW|exact YX|exact YY|exact YZ|exact Y1|exact rfl)|(refine Le.str ?_;first|exact Y2|exact Y3|exact Y4|exact Y5|exact Y6|exact Y7|exact Y8|exact rfl)|(refine Le.mp ?_;first|exact FE|exact Y9|exact Za|exact Zb|exact Zc|exact Zd|exact Ze|exact rfl)|exact eG|exact pv|exact uW|exact Zf|exact Zg|exact Zh|exact Zi|exact Wj 2 Zj|exact cm.iter rfl rfl (.inl rfl)))):p:=h
theorem hS:(∀{a b:Int},jB a b=decide (a<=b))/\(∀{a b:Int},fj a b=decide (a < b))/\(∀{a b:Int},gA a b=(a == b)) /\
  (∀{n:Int},-9223372036854775808<=n->n<=9223372036854775807->IntKind.i64.wrap n=n)/\(∀{a b:Int},((a == b)=true)=(a=b))/\(∀{p:Prop} [Decidable p],(decide p=true)=p) /\
  (∀{p:Prop} [Decidable p],(decide p=false)=¬p)/\(∀{a:Bool},((!a)=true)=(a=false))/\(∀{a b:Int},((a == b)=false)=(a≠b))/\(∀{α:Type} {a b:α},(a≠b)=¬(a=b)) /\
  (∀{a b:Bool},((a&&b)=true)=(a=true/\b=true))/\(∀{a b:Bool},((a||b)=true)=(a=true\/b=true))/\(∀{α:Type} {a b:α},(if True then a else b)=a)/\(∀{α:Type} {a b:α},(if False then a else b)=b) /\
  (∀{a:Bool},(¬(a=true))=(a=false))/\((false=true)=False)/\((true=false)=False)/\(∀{a:Bool},(¬(a=false))=(a=true)):=by
 refine ⟨rfl,rfl,rfl,ei,?_,?_,?_,?_,?_,rfl,?_,?_,?_,?_,?_,?_,?_,?_⟩<;>intros<;>simp
theorem ltT {a b:Nat} (h:fj a b=true):a < b:=by simpa [fj] using h
theorem aii {a b:Int} (h:fj a b=true):a < b:=by simpa [fj] using h
theorem ltF {a b:Nat} (h:fj a b=false):b<=a:=by simpa [fj] using h
theorem Xb {a b:Int} (h:fj a b=false):b<=a:=by simpa [fj] using h
theorem aij {a b:Int} (h:jB a b=true):a<=b:=by simpa [jB] using h
theorem Xc {a b:Int} (h:jB a b=false):b < a:=by simpa [jB] using h
theorem eqT {a b:Int} (h:gA a b=true):a=b:=by simpa [gA] using h
theorem eqF {a b:Int} (h:gA a b=false):¬a=b:=by simpa [gA] using h
theorem neT {a b:Int} (h:(!gA a b)=true):¬a=b:=by simpa [gA] using h
theorem neF {a b:Int} (h:(!gA a b)=false):a=b:=by simpa [gA] using h
theorem aL {p:Prop} (g:p:=by first|exact aii h.out|exact ltT h.out|exact eqF h.out|exact eqT h.out|exact Xb h.out|exact Int.not_lt.2 (Xb h.out)|exact aij h.out|exact Xc h.out|exact Int.not_le.2 (Xc h.out)|exact neT h.out|exact neF h.out|(have h':=h.out;simp only [hS] at h';simp only [Go.Vc.Xa] at *;omega)|(have h':=h.out;simpa [fj,jB,gA] using h')):p:=g
theorem df0 {x:Unit->Bool} {A B:Prop} (b:B) (h:¬x ()=true:=by simp [gA,Expr.op]):(wa x->A)/\(wb x->B):=⟨λt=>absurd t.out h,λ_=>b⟩
theorem dt0 {x:Unit->Bool} {A B:Prop} (a:A) (h:¬x ()=false:=by simp [gA,Expr.op]):(wa x->A)/\(wb x->B):=⟨λ_=>a,λt=>absurd t.out h⟩
@[reducible] def JG (T:TypeId->Option TI) (E:TypeId->Option gD) (fs:List (Nat × Func)) (sp:List (Nat × Spec)) (io lp cut row emp:List Nat):Ctx :=
 { tt:=T,el:=E,sp:=λf=>CA sp (id f),inl:=λf=>CA fs (id f),io:=λf=>fb f io,lp:=λf=>fb f lp,cut:=λf=>fb f cut,row:=λt=>fb t row,emp:=λt=>fb t emp }
def CB (PP:Unit->Program) (X:Ctx):Prop:=X.Ok (PP ())/\lx X
theorem Np {PP:Unit->Program} {T:TypeId->Option TI} {E:TypeId->Option gD} {fs:List (Nat × Func)} {sp:List (Nat × Spec)} {io lp cut row emp:List Nat} (ht:∀t i,T t=some i->kR (PP ()) t i)
 (he:∀X:Ctx,X.tt=T->∀t e,E t=some e->BI (PP ()) X t e) (hm:(PP ()).follows .mixedOrders=true) (hf:uV (λf fn=>kA (PP ()) f fn/\lS fn=true) fs) (hs:uV (λf S=>dm (PP ()) f S) sp) :
 CB PP (JG T E fs sp io lp cut row emp):=⟨⟨ht,he _ rfl,HC hs,λf fn h=>(HC hf f fn h).1,hm⟩,λf fn h=>(HC hf f fn h).2⟩
theorem fo {P : Program} {f : FuncId} {fn : Func} (h : P.funcs[f]? = some fn) (hb : (fn.body.isSome && !(fn.name == "runtime.NumGoroutine")) = true := by kernel_rfl) (hc : lS fn = true := by kernel_rfl) : kA P f fn /\ lS fn = true := ⟨Uu h hb, hc⟩
section
variable {PP:Unit->Program} {X:Ctx} {fid:FuncId} {fn:Func}
theorem fl (B:CB PP X) (F:kA (PP ()) fid fn/\lS fn=true) {S:Spec} (bV:∀a,bZ (S.args a)) (gn:∀a,LF (S.res a)) (h0:∀a,S.pre a->W5 PP X 2 fn (S.args a) (S.res a)) (sy:S.fr=false:=by rfl):dm (PP ()) fid S :=
 abD B.1 B.2 F.1 F.2 bV gn h0 sy
theorem Va (B:CB PP X) (F:kA (PP ()) fid fn/\lS fn=true) {S:Spec} (bV:∀a,bZ (S.args a)) (gn:∀a,LF (S.res a)) (h0:∀a,S.pre a->Wh PP X 2 fn (S.args a) (S.res a)):dm (PP ()) fid S :=
 abe B.1 B.2 F.1 F.2 bV gn h0
theorem Vb (B:CB PP X) (F:kA (PP ()) fid fn/\lS fn=true) {S:o7} (bV:∀a,bZ (S.args a)) (gn:∀a y,LF (S.res a y)) (h0:∀a,S.pre a->Wg PP X 2 fn S a):sE PP fid S :=
 abd B.1 B.2 F.1 F.2 bV gn h0
theorem qV (B:CB PP X) (F:kA (PP ()) fid fn/\lS fn=true) {Sp:nU} (hw:∀a y,JE Sp.mv (Sp.io a) (Sp.kZ a y)=true) (hm:∀a,zV Sp.mv 0 (Sp.io a)=true/\Cz (Sp.io a).length Sp.mv=true) (Pk:Sp.mv.Nodup)
 (h0:∀a,Sp.pre a->W9 PP X 2 fn Sp a):lW PP fid Sp:=adg B.1 B.2 F.1 F.2 hw hm Pk h0
variable {S:List SV} {r:Bool} {s:St} {body:Code} {k:Exit->St->Prop}
theorem Sat.iR (B:CB PP X) (h:tK S r PP X 2 body s k) (hc:codeOk body=true:=by kernel_rfl):Sat S r PP body s k:=Sat.go B.1 B.2 hc h
theorem Sat.ao0 (B:CB PP X) (n:Nat) (h:My S r PP X 2 body n s k) (hc:codeOk body=true:=by kernel_rfl):Sat S r PP (.loop body) s k:=Sat.rounds B.1 B.2 hc n h
theorem Sat.ap5 (B:CB PP X) {α:Type} (n:Nat) (own:List (Place × Nat)) (I:α->St) (J:α->Prop) (μ:α->Nat) (x0:α) (h0:oQ (s.cut n).t (I x0).t) (pr:lJ (s.cut n).b (I x0).b) (hJ:J x0)
 (hr:∀x,J x->tK S r PP X 2 body (I x) (HU S n own I J μ x k)) (hc:codeOk body=true:=by kernel_rfl) (hn:kT (Nat.ble n) S=false:=by rfl):Sat S r PP (.loop body) s k:=Sat.loop B.1 B.2 hc n own I J μ x0 h0 pr hJ hr hn
theorem Sat.eE (B:CB PP X) {α:Type} (n m:Nat) (own:List (Place × Nat)) (ut:α->List (Nat × SV)) (ub:α->List (Nat × Slot)) (J:α->Prop) (μ:α->Nat) (x0:α)
  (h0:oQ (s.cut n).t (s.patch n m (ut x0) (ub x0)).t) (pr:lJ (s.cut n).b (s.patch n m (ut x0) (ub x0)).b) (hJ:J x0)
  (hr:∀x,J x->tK S r PP X 2 body (s.patch n m (ut x) (ub x)) (HU S n own (λx=>s.patch n m (ut x) (ub x)) J μ x k)) (hc:codeOk body=true:=by kernel_rfl) (hn:kT (Nat.ble n) S=false:=by rfl):Sat S r PP (.loop body) s k :=
 Sat.agT B.1 B.2 hc n m own ut ub J μ x0 h0 pr hJ hr hn
end
def o7.fun (S:o7):Spec:={ α:=S.α,args:=S.args,pre:=S.pre,res:=λa=>.opt (S.post a) (S.res a) }
theorem sE.fun {P:Unit->Program} {f:FuncId} {S:o7} {fn:Func} (I:sE P f S) (F:kA (P ()) f fn):dm (P ()) f S.fun where
 fn:=⟨fn,F⟩
 lf:=I.lf
 lr:=λa=>by show LF (.opt (S.post a) (S.res a));simp only [LF];exact λy=>I.lr a y
 fresh:=λh=>by cases h
 run:=λa dL H F' w vals hH hF iX=>by
  refine (I.run a dL H F' w vals hH hF iX).mono ?_
  rintro e w' ⟨y,v,H',h1,h2,h3,h4,h5,h6,h7,h8⟩
  refine ⟨v,H',h2,h3,h4,h5,h6,?_,h8⟩
  show rel _ _ _ (.opt (S.post a) (S.res a)) v
  simp only [rel]
  exact ⟨⟨y,h1,h7⟩,λt=>I.lr a t⟩
theorem sE.opt {P:Unit->Program} {f:FuncId} {S T:o7} (I:sE P f S) {U:Type} (p:T.α->U->Prop) (x:U->SV) (r:T.α->List SV) (c:T.α->U->S.α) (bV:∀u,LF (x u)) (hr:∀a,bZ (r a))
  (hT:∀a,T.args a=.opt (p a) x :: r a) (hS:∀a u,S.args (c a u)=x u :: r a) (hp:∀a u,T.pre a->p a u->S.pre (c a u)) (hb:T.β=S.β) (hq:∀a u y,p a u->T.pre a->S.post (c a u) y->T.post a (hb ▸ y)/\S.res (c a u) y=T.res a (hb ▸ y)) (Pn:∀a y,LF (T.res a y)):sE P f T where
 lf:=λa=>by
  rw [hT]
  exact ⟨by simp only [LF];exact bV,hr a⟩
 lr:=Pn
 run:=λa dL H F' w vals hH hF iX=>by
  rw [hT] at iX
  simp only [aK,rel] at iX
  obtain ⟨v,vs,rfl,⟨⟨u,hu,hv⟩,_⟩,qa⟩:=iX
  refine (I.run (c a u) (hp a u dL hu) H F' w (v :: vs) hH hF (by rw [hS];simp only [aK];exact ⟨v,vs,rfl,hv,qa⟩)).mono ?_
  rintro e w' ⟨y,v',H',h1,h2,h3,h4,h5,h6,h7,h8⟩
  obtain ⟨q1,q2⟩:=hq a u y hu dL h1
  rw [q2] at h7
  exact ⟨_,v',H',q1,h2,h3,h4,h5,h6,h7,h8⟩
section
variable {H:Type} {enc:TypeId × Value->H} {P:Program} {W W':World}
theorem QQ (hl:laidOutB P=true) (hb:Below W.heap.size W W') {sp:Nat->Bool}:∀{ts:List TypeId} {vs:List Value} {ds:List (DataW H)} {ps:List MemPlace},
  (∀t∈ts,P.readableRec t=true/\t < P.types.size)->DataW.TrodAll enc P W 0 (λ_=>true) true ts vs ds ps->(∀p∈ps,p.block < W.heap.size)->(∀p∈ps,sp p.block=true) ->
  DataW.TrodAll enc P W' 0 sp true ts vs ds ps
 | [],[],[],_,_,h,_,_=>h
 | t :: ts,v :: vs,d :: ds,ps,ht,⟨p,q,h1,h2,e⟩,aQ,hs=>by
  subst e
  refine ⟨p,q,?_,?_,rfl⟩
  ·exact WideElems.Trod_stays hl (ht t (by simp)).1 (ht t (by simp)).2 h1 (λx hx=>hb.same (aQ x (by simp [hx]))) (λx hx=>hs x (by simp [hx]))
  ·exact QQ hl hb (λu hu=>ht u (by simp [hu])) h2 (λx hx=>aQ x (by simp [hx])) (λx hx=>hs x (by simp [hx]))
theorem adh {f:Func} {s:ChangeSpec} {fresh handsOn again:Bool} {args:Array Value} {ds gs:List (DataW H)} {before:List MemPlace}
  (hl:laidOutB P=true) (Ct:∀t∈f.params.toList,P.readableRec t=true/\t < P.types.size) {tb:TypeId} (hr:f.resultTypes=#[tb]) (JH:P.underlying tb=some .bool)
  (wv:s.vars=[]) (gn:(s.fn H (ds++gs)).results=[.lit (.bool true)]) (lu:(s.fn H (ds++gs)).args=ds) (qa:(s.fn H (ds++gs)).vars=[])
  (hW:DataW.Whole enc P f.params.toList s.vars false W args.toList ds gs before) (hb:Below W.heap.size W W') :
  s.post enc P f false fresh handsOn again W args (.bool true) W':=by
 obtain ⟨p,q,hA,hV,e,JI,fe⟩:=hW
 have hq:q=[]:=by
  rw [wv] at hV
  cases gs with
  | nil=>exact hV
  | cons g gs=>exact hV.elim
 subst hq
 have hp:before=p:=by rw [e];simp
 subst hp
 have aQ:=DataW.Whole.lt ⟨before,[],hA,hV,by simp,JI,fe⟩
 have hR:∀(b:Nat) (sp:Nat->Bool) (hd:Bool),DataW.TrodAll enc P W' b sp hd f.resultTypes.toList ((Value.bool true).resultList f.resultTypes.size) (s.fn H (ds++gs)).results []:=by
  intro b sp hd
  rw [hr,gn]
  exact trodAll_cons_mk (shut_bool JH _) trodAll_mk0
 have Zk:∀sp:Nat->Bool,(∀p∈before,sp p.block=true)->DataW.TrodAll enc P W' 0 sp true f.params.toList args.toList (s.fn H (ds++gs)).args before:=by
  intro sp hs
  rw [lu]
  exact QQ hl hb Ct hA aQ hs
 have Zl:∀sp:Nat->Bool,DataW.TrodVars enc P W' sp s.vars (s.fn H (ds++gs)).vars []:=by
  intro sp
  rw [wv,qa]
  rfl
 refine ⟨ds,gs,before,[],before,[],⟨before,[],hA,hV,by simp,JI,fe⟩,hR _ _ _,Zk _ (λp hp=>by simpa using aQ p hp),Zl _,hb.frame _,λ_=>?_⟩
 refine ⟨?_,_,_,([]++before)++[],⟨[]++before,[],trodAll_append (Zk _ (λ_ _=>rfl)) (hR _ _ _),Zl _,rfl,?_,?_⟩,?_⟩
 ·exact ok_one hr rfl (okWide_bool_mk JH _)
 ·intro b off hp
  have hp:MemPlace.cell b off∈before:=by simpa using hp
  rw [hb.frozen (aQ _ hp)]
  exact JI b off hp
 ·intro ha;cases ha
 ·intro p hp _
  simpa using hp
theorem aaJ {w w':World} (h:(gJ w).gQ w') (h1:w'.os=w.os) (h2:w'.tape=w.tape) (h3:w'.output=w.output):Below w.heap.size w w':=by
 have g:=Gy h h1 h2 h3
 exact ⟨g.os,g.tape,g.output,g.size,λk hk=>g.block k hk (by simp)⟩
theorem adi {S:Spec} {fid:FuncId} (h:dm P fid S) (a:S.α) (ha:S.pre a) (gn:S.res a=.bc true) {w:World} {vals:List Value} (iX:cW (gJ w) (S.args a) vals) :
  Calls P fid vals.toArray w λe w'=>e=.returned (.bool true)/\Below w.heap.size w w':=by
 refine (h.run a ha (gJ w) (gJ w) w vals (wV w) (wV w) iX).mono ?_
 rintro e w' ⟨v,H',rfl,_,_,hF,_,hv,h1,h2,h3⟩
 rw [gn] at hv
 simp only [rel] at hv
 subst hv
 exact ⟨rfl,aaJ hF h1 h2 h3⟩
end
theorem IX {a b:Nat}:(Nat.beq a b=true)=(a=b):=propext ⟨lP,λh=>h ▸ LB a⟩
inductive Ty where
 | int (k:IntKind)
 | bool
 | str
 | sl (e:Ty)
 | unit
 | pair (a b:Ty)
abbrev Ty.nr:Ty->Type
 | .int _=>Int
 | .bool=>Bool
 | .str=>ByteArray
 | .sl e=>List e.nr
 | .unit=>Unit
 | .pair a b=>a.nr × b.nr
def Ty.size:Ty->Nat
 | .unit=>0
 | .pair a b=>a.size+b.size
 | _=>1
def Ty.cells:(T:Ty)->T.nr->List SV
 | .int k,n=>[.i k λ_=>n]
 | .bool,b=>[.b λ_=>b]
 | .str,s=>[.str λ_=>s]
 | .sl e,xs=>[.sl e.size e.cells λ_=>xs]
 | .unit,_=>[]
 | .pair a b,x=>a.cells x.1++b.cells x.2
def Ty.wf:(T:Ty)->T.nr->Prop
 | .int k,n=>k.min<=n/\n<=k.max
 | .bool,_=>True
 | .str,s=>s.size<=maxLen
 | .sl e,xs=>xs.length<=maxLen/\∀x∈xs,e.wf x
 | .unit,_=>True
 | .pair a b,x=>a.wf x.1/\b.wf x.2
def Ty.arg:(T:Ty)->T.nr->SV
 | .int k,n=>.i k λ_=>n
 | .bool,b=>.b λ_=>b
 | .str,s=>.str λ_=>s
 | .sl e,xs=>.sl e.size e.cells λ_=>xs
 | .unit,_=>.agg []
 | .pair a b,x=>.agg (a.cells x.1++b.cells x.2)
theorem Ty.lf:∀(T:Ty) (x:T.nr),bZ (T.cells x)
 | .int k,n=>⟨trivial,trivial⟩
 | .bool,b=>⟨trivial,trivial⟩
 | .str,s=>⟨trivial,trivial⟩
 | .sl e,xs=>⟨λx=>e.lf x,trivial⟩
 | .unit,_=>trivial
 | .pair a b,x=>KS (a.lf x.1) (b.lf x.2)
def oH (T:Ty):Nat->Ty
 | 0=>.unit
 | n+1=>.pair T (oH T n)
def y5 (r:TypeId->Option Ty) (c:TypeId->Nat):Nat->List Field->Option Ty
 | _,[]=>some .unit
 | o,f :: fs =>
  match r f.type with
  | some T=>match Nat.beq f.offset o&&Nat.beq (c f.type) T.size with
   | true=>match y5 r c (o+T.size) fs with
    | some U=>some (.pair T U)
    | none=>none
   | false=>none
  | none=>none
def tA (P:Program):Nat->TypeId->Option Ty
 | 0,_=>none
 | n+1,t=>match P.underlying t with
  | some (.int k)=>some (.int k)
  | some .bool=>some .bool
  | some .string=>some .str
  | some (.slice e)=>match tA P n e with
   | some T=>match Nat.beq (P.cellsOf e) T.size&&Nat.blt 0 T.size with
    | true=>some (.sl T)
    | false=>none
   | none=>none
  | some (.struct fs)=>match y5 (tA P n) P.cellsOf 0 fs.toList with
   | some T=>match Nat.beq (P.cellsOf t) T.size with
    | true=>some T
    | false=>none
   | none=>none
  | some (.array m e)=>match tA P n e with
   | some T=>match Nat.beq (P.cellsOf e) T.size&&Nat.beq (P.cellsOf t) (m*T.size) with
    | true=>some (oH T m)
    | false=>none
   | none=>none
  | _=>none
theorem Q3 {α:Type} {p:Nat->α->Prop}:∀(n:Nat),(∀i,i < n->∃y,p i y)->∃ys:List α,ys.length=n/\∀i y,ys[i]?=some y->p i y
 | 0,_=>⟨[],rfl,λi y h=>by simp at h⟩
 | n+1,h=>by
  obtain ⟨ys,h1,h2⟩:=Q3 n λi hi=>h i (by omega)
  obtain ⟨y,hy⟩:=h n (by omega)
  refine ⟨ys++[y],by simp [h1],λi z hz=>?_⟩
  rw [Dr] at hz
  split at hz
  ·exact h2 i z hz
  ·rename_i hi
   have:i=n:=by
    have:=(bq.1 hz).1
    simp at this;omega
   subst this
   simp [h1] at hz
   subst hz;exact hy
section
variable {H:Type} {enc:TypeId × Value->H} {P:Program} {W:World} {base:Nat} {sp:Nat->Bool} {held:Bool}
def Nq (enc:TypeId × Value->H) (P:Program) (W:World) (base:Nat) (sp:Nat->Bool) (held:Bool) (m:Nat) (t:TypeId) (T:Ty):Prop :=
 ∀cs x,DataW.trod enc P W base sp held m t cs=some x->∃y:T.nr,T.wf y/\cs.length=T.size/\cW (gJ W) (T.cells y) cs
theorem Q4 {n m:Nat} (ih:∀t T,tA P n t=some T->Nq enc P W base sp held m t T):∀(fs:List Field) (o:Nat) (T:Ty) (cs:List Value) (xs:List (DataW H × List MemPlace)),
  y5 (tA P n) P.cellsOf o fs=some T->fs.mapM (λf=>DataW.trod enc P W base sp held m f.type ((cs.drop f.offset).take (P.cellsOf f.type)))=some xs->cs.length=o+T.size ->
  ∃y:T.nr,T.wf y/\cW (gJ W) (T.cells y) (cs.drop o)
 | [],o,T,cs,xs,h,_,hl=>by
  simp [y5] at h;subst h
  refine ⟨(),trivial,?_⟩
  have:cs.drop o=[]:=by simp;simp [Ty.size] at hl;omega
  rw [this];simp [Ty.cells,aK]
 | f :: fs,o,T,cs,xs,h,hm,hl=>by
  unfold y5 at h
  split at h<;>try (cases h;done)
  rename_i T1 h1
  split at h<;>try (cases h;done)
  rename_i h2
  split at h<;>try (cases h;done)
  rename_i U h3
  simp at h;subst h
  simp only [cf,IX] at h2
  rw [Dw] at hm
  simp only [bind,K7,pure,pL] at hm
  obtain ⟨a,ha,as,has,rfl⟩:=hm
  rw [h2.1,h2.2] at ha
  obtain ⟨y,jV,oo,Po⟩:=ih _ _ h1 _ _ ha
  simp only [Ty.size] at hl
  obtain ⟨z,x4,sq⟩:=Q4 ih fs (o+T1.size) U cs as h3 has (by omega)
  refine ⟨(y,z),⟨jV,x4⟩,?_⟩
  have e:cs.drop o=(cs.drop o).take T1.size++cs.drop (o+T1.size):=by rw [<-List.drop_drop,List.take_append_drop]
  rw [e]
  exact gI Po sq
theorem SH {m c:Nat} {e:TypeId} {T:Ty} (ih:Nq enc P W base sp held m e T) (hc:c=T.size):∀(k o:Nat) (cs:List Value) (xs:List (DataW H × List MemPlace)),
  (List.range' o k).mapM (λi=>DataW.trod enc P W base sp held m e ((cs.drop (i*c)).take c))=some xs->cs.length=(o+k)*c ->
  ∃y:(oH T k).nr,(oH T k).wf y/\cW (gJ W) ((oH T k).cells y) (cs.drop (o*c))
 | 0,o,cs,xs,_,hl=>by
  refine ⟨(),trivial,?_⟩
  have:cs.drop (o*c)=[]:=by simp;rw [hl];simp
  rw [this];simp [oH,Ty.cells,aK]
 | k+1,o,cs,xs,hm,hl=>by
  rw [List.range'_succ,Dw] at hm
  simp only [bind,K7,pure,pL] at hm
  obtain ⟨a,ha,as,has,rfl⟩:=hm
  obtain ⟨y,jV,oo,Po⟩:=ih _ _ ha
  obtain ⟨z,x4,sq⟩:=SH ih hc k (o+1) cs as has (by rw [hl];congr 1;omega)
  refine ⟨(y,z),⟨jV,x4⟩,?_⟩
  have e:cs.drop (o*c)=(cs.drop (o*c)).take c++cs.drop ((o+1)*c):=by
   rw [show (o+1)*c=o*c+c by rw [Nat.add_mul];omega,<-List.drop_drop,List.take_append_drop]
  rw [e]
  exact gI Po sq
theorem Ty.TK (T:Ty):∀k,(oH T k).size=k*T.size
 | 0=>by simp [oH,Ty.size]
 | k+1=>by simp only [oH,Ty.size];rw [Ty.TK T k,Nat.add_mul];omega
theorem opens:∀(n:Nat) (t:TypeId) (T:Ty),tA P n t=some T->∀m,Nq enc P W base sp held m t T
 | 0,t,T,h,_=>by cases h
 | n+1,t,T,h,0=>by
  intro cs x hx
  simp [DataW.trod] at hx
 | n+1,t,T,h,m+1=>by
  intro cs x hx
  unfold tA at h
  split at h
  ·rename_i k hk
   simp at h;subst h
   obtain ⟨z,rfl,_,hw⟩:=DataW.trod_int hk hx
   exact ⟨z,by simpa [Ty.wf,Lit.wf] using hw,rfl,by simp [Ty.cells,aK,rel]⟩
  ·rename_i hk
   simp at h;subst h
   obtain ⟨z,rfl,_⟩:=DataW.trod_bool hk hx
   exact ⟨z,trivial,rfl,by simp [Ty.cells,aK,rel]⟩
  ·rename_i hk
   simp at h;subst h
   obtain ⟨z,rfl,_,hw⟩:=DataW.trod_string hk hx
   exact ⟨z,hw,rfl,by simp [Ty.cells,aK,rel]⟩
  ·rename_i e hk
   split at h<;>try (cases h;done)
   rename_i E hE
   split at h<;>try (cases h;done)
   rename_i hc
   simp at h;subst h
   simp only [cf,IX,A7] at hc
   obtain ⟨hc,pU⟩:=hc
   have lf:∀x:E.nr,bZ (E.cells x):=E.lf
   rcases DataW.trod_slice hk hx with ⟨rfl,_⟩|⟨a,len,cap,elems,rest,k,_,rfl,_,hb,hle,hm,hlen,Pp,_⟩
   ·refine ⟨[],⟨cK _,by simp⟩,rfl,?_⟩
    simp only [Ty.cells,aK,rel]
    exact ⟨_,[],rfl,⟨⟨none,0,rfl,by simp,.inl trivial⟩,lf⟩,rfl⟩
   ·obtain ⟨ys,jV,oo⟩:=Q3 (p:=λi (y:E.nr)=>E.wf y/\∃us,W.cells? base (a.add (i*E.size)) E.size=some us/\us.length=E.size/\cW (gJ W) (E.cells y) us) len (λi hi=>by
     have h1:=Pp i hi
     rw [eB (by omega),hc] at h1
     rw [K7] at h1
     obtain ⟨us,h2,h3⟩:=h1
     obtain ⟨y,h4,h5,h6⟩:=opens n e E hE k us _ h3
     exact ⟨y,h4,us,h2,h5,h6⟩)
    refine ⟨ys,⟨by omega,λx hx=>?_⟩,rfl,?_⟩
    ·obtain ⟨i,hi⟩:=qC hx
     exact (oo i x hi).1
    ·simp only [Ty.cells,aK,rel]
     refine ⟨_,[],rfl,⟨⟨some a,cap,by rw [jV],by rw [jV];exact hle,?_⟩,lf⟩,rfl⟩
     by_cases hz:ys=[]
     ·exact .inl hz
     right
     have h0:0 < ys.length:=by cases ys with|nil=>exact absurd rfl hz|cons=>simp
     have fk:a.spot=none:=by
      obtain ⟨_,us,h1,h2,_⟩:=oo 0 _ (eB h0)
      have h3:=(World.cells?_some h1).2.2 0 pU
      rw [Nat.zero_mul] at h3
      have pf:W.cell? ((a.add 0).add 0)=some us[0]:=by rw [h3,eB (by omega)]
      unfold World.cell? at pf
      split at pf
      ·cases a with
       | mk b o s=>cases s<;>simp_all [Addr.add]
      ·cases pf
     refine ⟨a,rfl,fk,λj x hx=>?_⟩
     obtain ⟨_,us,h1,h2,h3⟩:=oo j x hx
     refine ⟨us,h2,h3,λi u hu=>?_⟩
     have hi:i < E.size:=by rw [<-h2];exact (bq.1 hu).1
     have h4:=(World.cells?_some h1).2.2 i hi
     rw [hu,nG _ fk,qE] at h4
     exact aa2 h4
  ·rename_i fs hk
   split at h<;>try (cases h;done)
   rename_i U hU
   split at h<;>try (cases h;done)
   rename_i hc
   simp at h;subst h
   simp only [IX] at hc
   rw [DataW.trod_step] at hx
   unfold DataW.trodStep at hx
   simp only [hk] at hx
   split at hx<;>try (cases hx;done)
   rename_i hl
   simp only [DL] at hx
   obtain ⟨xs,hx,_⟩:=hx
   obtain ⟨y,h1,h2⟩:=Q4 (λt T hT=>opens n t T hT m) fs.toList 0 U cs xs hU hx (by omega)
   exact ⟨y,h1,by omega,by simpa using h2⟩
  ·rename_i k e hk
   split at h<;>try (cases h;done)
   rename_i E hE
   split at h<;>try (cases h;done)
   rename_i hc
   simp at h;subst h
   simp only [cf,IX] at hc
   rw [DataW.trod_step] at hx
   unfold DataW.trodStep at hx
   simp only [hk] at hx
   split at hx<;>try (cases hx;done)
   rename_i hl
   simp only [DL] at hx
   obtain ⟨xs,hx,_⟩:=hx
   rw [hc.1,List.range_eq_range'] at hx
   obtain ⟨y,h1,h2⟩:=SH (opens n e E hE m) rfl k 0 cs xs hx (by rw [hl,hc.2];simp)
   exact ⟨y,h1,by rw [Ty.TK];omega,by simpa using h2⟩
  ·cases h
theorem Uw {n:Nat} {t:TypeId} {T:Ty} (hT:tA P n t=some T) {r:Reach} {b0:Nat} {v:Value} {d:DataW H} {ps:List MemPlace} (se:Value.okWide P W r b0 t v) (hd:DataW.Trod enc P W base sp held t v d ps) :
  ∃y:T.nr,T.wf y/\cW (gJ W) [T.arg y] [v]:=by
 obtain ⟨fuel,hf⟩:=hd
 obtain ⟨y,h1,h2,h3⟩:=opens n t T hT fuel _ _ hf
 refine ⟨y,h1,?_⟩
 have agg:∀cs:Array Value,v=.agg cs->cW (gJ W) [SV.agg (T.cells y)] [v]:=by
  rintro cs rfl
  simp only [aK,rel]
  exact ⟨_,[],rfl,⟨cs.toList,rfl,h3⟩,rfl⟩
 have one:(∀cs:Array Value,v≠.agg cs)->cW (gJ W) (T.cells y) [v]:=by
  intro hn
  have:v.cells.toList=[v]:=by
   cases v<;>try rfl
   rename_i cs;exact absurd rfl (hn cs)
  rw [this] at h3;exact h3
 cases n with
 | zero=>cases hT
 | succ n =>
  unfold tA at hT
  split at hT
  ·rename_i k hk
   simp at hT;subst hT
   obtain ⟨z,rfl⟩:=okWide_int hk se
   exact one (by simp)
  ·rename_i hk
   simp at hT;subst hT
   obtain ⟨z,rfl⟩:=okWide_bool hk se
   exact one (by simp)
  ·rename_i hk
   simp at hT;subst hT
   obtain ⟨z,rfl⟩:=okWide_string hk se
   exact one (by simp)
  ·rename_i e hk
   split at hT<;>try (cases hT;done)
   split at hT<;>try (cases hT;done)
   simp at hT;subst hT
   obtain ⟨a,len,cap,rfl⟩:=okWide_slice hk se
   exact one (by simp)
  ·rename_i fs hk
   have N3:∃cs,v=.agg cs:=by
    simp only [Value.okWide,hk] at se
    obtain ⟨cs,h,_⟩:=se
    exact ⟨cs,h⟩
   obtain ⟨cs,fM⟩:=N3
   split at hT<;>try (cases hT;done)
   rename_i U hU
   split at hT<;>try (cases hT;done)
   simp at hT;subst hT
   have:U.arg y=.agg (U.cells y):=by
    generalize fs.toList=l at hU
    cases l with
    | nil=>simp [y5] at hU;subst hU;rfl
    | cons f r =>
     unfold y5 at hU
     split at hU<;>try (cases hU;done)
     split at hU<;>try (cases hU;done)
     split at hU<;>try (cases hU;done)
     simp at hU;subst hU;rfl
   rw [this]
   exact agg cs fM
  ·rename_i k e hk
   have N3:∃cs,v=.agg cs:=by
    simp only [Value.okWide,hk] at se
    obtain ⟨cs,h,_⟩:=se
    exact ⟨cs,h⟩
   obtain ⟨cs,fM⟩:=N3
   split at hT<;>try (cases hT;done)
   split at hT<;>try (cases hT;done)
   simp at hT;subst hT
   rename_i E _ _ _
   have:(oH E k).arg y=.agg ((oH E k).cells y):=by
    cases k<;>rfl
   rw [this]
   exact agg cs fM
  ·cases hT
end
end Go.Vc
