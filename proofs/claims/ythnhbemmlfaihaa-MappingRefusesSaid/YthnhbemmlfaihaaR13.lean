import Derived.Test.YthnhbemmlfaihaaR11
import Derived.Test.YthnhbemmlfaihaaR12
import Derived.KernelRfl
import Derived.Carry
import Derived.ProofKit
import Derived.OpenShut
set_option linter.unusedVariables false
set_option linter.unusedSimpArgs false
set_option maxRecDepth 10000
set_option maxHeartbeats 64000000
namespace Go.Vc
open Go Go.ChangeShapes Go.WideShapes Go.ChangeAt Go.RowKit
def WU (P:Program) (t:TypeId):TD->Bool
 | .int k=>match P.underlying t with|some (.int k')=>k == k'|_=>false
 | .bool=>match P.underlying t with|some .bool=>true|_=>false
 | .str=>match P.underlying t with|some .string=>true|_=>false
 | .sl e=>match P.underlying t with|some (.slice e')=>e == e'|_=>false
 | .ptr e=>match P.underlying t with|some (.pointer e')=>e == e'|_=>false
 | .st gs=>match P.underlying t with
  | some (.struct fs)=>(fs.toList.map λf=>(f.type,f.offset,P.cellsOf f.type)) == gs&&gs.all (λg=>Nat.blt 0 g.2.2)
  | _=>false
 | .arr n e=>match P.underlying t with|some (.array n' e')=>n == n'&&e == e'|_=>false
 | .map k v=>match P.underlying t with|some (.map k' v')=>k == k'&&v == v'|_=>false
 | .other=>match P.underlying t with|some (.struct _)=>false|some (.array _ _)=>false|some _=>true|none=>false
def PR (P:Program) (t:TypeId) (i:TI):Bool :=
 (match P.info? t with|some inf=>inf.size == i.size&&inf.bytes == i.bytes|none=>false)&&i.zero.cells.size == i.size&&Nat.blt 0 i.size&&WU P t i.d
theorem U1 {P:Program} {t:TypeId} {i:TI} (hz:(P.info? t).map (·.zero)=some (some i.zero)) (hb:PR P t i=true)
  (hf:i.flat=true->i.agg=true/\∀(vs us:List Value) (w:World),vs.length=i.size->us.length=i.size ->
   n8 vs us=true->n8 vs i.zero.cells.toList=true->∀op x y,(op=.eql\/op=.neq) ->
   (do eqGuard op t x y (.agg vs.toArray) (.agg us.toArray);binOp op t (.agg vs.toArray) (.agg us.toArray):Sem Value).run P w =
    .ok (.bool (if op=.eql then qc vs us else !qc vs us)) w)
  (hk:∀ks,i.kd=some ks->x3 P t (.ints ks):=by intro _ h;cases h):k9 P t i:=by
 unfold PR at hb
 simp only [cu,beq_iff_eq] at hb
 obtain ⟨⟨⟨h1,h2⟩,h3⟩,h4⟩:=hb
 refine ⟨?_,h2,by simpa [BD] using h3,?_,hf,hk⟩
 ·cases hi:P.info? t with
  | none=>rw [hi] at hz;cases hz
  | some inf =>
   rw [hi] at hz h1
   simp at hz h1
   exact ⟨inf,rfl,h1.1,h1.2,hz⟩
 ·cases hd:i.d<;>rw [hd] at h4<;>simp only [WU] at h4 ⊢
  case int k=>split at h4<;>first|(simp at h4;subst h4;assumption)|cases h4
  case bool=>split at h4<;>first|assumption|cases h4
  case str=>split at h4<;>first|assumption|cases h4
  case sl e=>split at h4<;>first|(simp at h4;subst h4;assumption)|cases h4
  case ptr e=>split at h4<;>first|(simp at h4;subst h4;assumption)|cases h4
  case arr n e=>split at h4<;>first|(simp at h4;obtain ⟨rfl,rfl⟩:=h4;assumption)|cases h4
  case map k v=>split at h4<;>first|(simp at h4;obtain ⟨rfl,rfl⟩:=h4;assumption)|cases h4
  case st gs =>
   split at h4
   ·rename_i fs hu
    simp only [cu,beq_iff_eq,im] at h4
    obtain ⟨e,kL⟩:=h4
    refine ⟨fs,hu,by rw [<-e];simp,λj f hj=>?_⟩
    have hg:gs[j]?=some (f.type,f.offset,P.cellsOf f.type):=by rw [<-e];simp [hj]
    have hp:=kL _ (cN hg)
    unfold Program.cellsOf at hp hg
    cases hi:P.info? f.type with
    | none=>rw [hi] at hp;simp [BD] at hp
    | some inf =>
     rw [hi] at hp hg
     refine ⟨inf,rfl,?_,by simpa using hg⟩
     have:0 < inf.size:=by simpa [BD] using hp
     omega
   ·cases h4
  case other =>
   split at h4
   ·cases h4
   ·cases h4
   ·rename_i d h5 h6 hu
    exact ⟨d,hu,λx e=>h5 x e,λn e' e=>h6 n e' e⟩
   ·cases h4
theorem U2 {P : Program} {f : FuncId} {fn : Func} (h : P.funcs[f]? = some fn) (hb : (fn.body.isSome && !(fn.name == "runtime.NumGoroutine")) = true) : kJ P f fn := by
 simp only [cu,nY] at hb
 exact ⟨h,hb.1,hb.2⟩
theorem eP {n:Int} (h1:-9223372036854775808<=n) (h2:n<=9223372036854775807):IntKind.i64.wrap n=n:=by
 rw [IntKind.wrap_i64]
 omega
def CE (P:Program) (t:TypeId) (z:Value):Bool :=
 match P.underlying t,z with
 | some (.int _),.int _ _=>true
 | some .bool,.bool _=>true
 | some .string,.string _=>true
 | _,_=>false
section
variable {P:Program}
theorem acg {t:TypeId} {z:Value} (hf:CE P t z=true) (d:Nat) (a b:Value) (h:r8 a b=true) (hz:r8 a z=true) (w:World) :
  (Op.equalIn (d+1) t a b).run P w=.ok (x2 a b) w:=by
 unfold CE at hf
 split at hf
 ·rename_i k k' n hu
  cases a<;>simp [r8] at hz
  cases b<;>simp [r8] at h
  subst h
  simp [Op.equalIn,run_underlying hu,x2]
 ·rename_i c hu
  cases a<;>simp [r8] at hz
  cases b<;>simp [r8] at h
  simp [Op.equalIn,run_underlying hu,x2]
 ·rename_i c hu
  cases a<;>simp [r8] at hz
  cases b<;>simp [r8] at h
  simp [Op.equalIn,run_underlying hu,x2]
 ·cases hf
theorem MN {t:TypeId} {z:Value} (hf:CE P t z=true) (cs:Array Value) (off:Nat) (v:Value) (hv:cs[off]?=some v) (w:World):(part t cs off).run P w=.ok v w:=by
 unfold CE at hf
 split at hf
 ·rename_i k k' n hu;simp [part,isAgg,run_underlying hu,hv]
 ·rename_i c hu;simp [part,isAgg,run_underlying hu,hv]
 ·rename_i c hu;simp [part,isAgg,run_underlying hu,hv]
 ·cases hf
def uK (P:Program):List Field->List Value->Nat->Bool
 | [],[],_=>true
 | f :: fs, z :: zs, off => f.offset == off && !(f.name == "_") && CE P f.type z && uK P fs zs (off + 1)
 | _,_,_=>false
theorem La (d:Nat) (xs ys:Array Value):∀(fs:List Field) (zs vs us:List Value) (off:Nat),uK P fs zs off=true->xs.toList.drop off=vs->ys.toList.drop off=us->n8 vs us=true->n8 vs zs=true ->
  ∀w,(Op.eqFields (d+1) xs ys fs).run P w=.ok (qc vs us) w
 | [],zs,vs,us,off,hs,hx,hy,h1,h2,w=>by
  cases zs with
  | cons _ _=>simp [uK] at hs
  | nil =>
   cases vs with
   | cons _ _=>simp [n8] at h2
   | nil=>simp [Op.eqFields,qc]
 | f :: fs,[],vs,us,off,hs,hx,hy,h1,h2,w=>by simp [uK] at hs
 | f :: fs,z :: zs,vs,us,off,hs,hx,hy,h1,h2,w=>by
  simp only [uK,cu,beq_iff_eq,nY] at hs
  obtain ⟨⟨⟨ho,hn⟩,hf⟩,hs⟩:=hs
  cases vs with
  | nil=>simp [n8] at h2
  | cons v vs =>
   cases us with
   | nil=>simp [n8] at h1
   | cons u us =>
    simp only [n8,cu] at h1 h2
    have PS:xs[off]?=some v:=by
     have:=congrArg (λl=>l[0]?) hx
     simp only [iZ,Es,p8] at this
     simpa using this
    have hux:ys[off]?=some u:=by
     have:=congrArg (λl=>l[0]?) hy
     simp only [iZ,Es,p8] at this
     simpa using this
    have jy:xs.toList.drop (off+1)=vs:=by rw [<-List.drop_drop,hx];rfl
    have qq:ys.toList.drop (off+1)=us:=by rw [<-List.drop_drop,hy];rfl
    have ih:=La d xs ys fs zs vs us (off+1) hs jy qq h1.2 h2.2 w
    have qo : f.name ≠ "_" := by simpa using hn
    simp only [Op.eqFields]
    rw [if_pos qo]
    simp only [Sem.run_bind,ho,MN hf xs off v PS,MN hf ys off u hux,Result.andThen_ok,acg hf d v u h1.1 h2.1,qc]
    cases hq:x2 v u
    ·simp
    ·simpa using ih
theorem abS {t:TypeId} {zs:List Value} (hu:P.underlying t=some (.struct (P.fieldsOf t))) (hp:P.stoodInHeld t=false) (hg:P.eqGuardType P.depth t=false) (hs:uK P (P.fieldsOf t).toList zs 0=true)
  (vs us:List Value) (w:World) (h1:n8 vs us=true) (h2:n8 vs zs=true) (op:BinOp) (x y:Operand) (ff:op=.eql\/op=.neq) :
  (do eqGuard op t x y (.agg vs.toArray) (.agg us.toArray);binOp op t (.agg vs.toArray) (.agg us.toArray):Sem Value).run P w=.ok (.bool (if op=.eql then qc vs us else !qc vs us)) w:=by
 have he:=La (P:=P) 9998 vs.toArray us.toArray (P.fieldsOf t).toList zs vs us 0 hs (by simp) (by simp) h1 h2 w
 have hr:=run_equalIn_struct w 9999 t vs.toArray us.toArray hu hp
 rcases ff with rfl|rfl
 ·simp only [Sem.run_bind,run_eqGuard_agg w _ t x y _ _ hg,Result.andThen_ok,run_eql_struct w]
  rw [hr,he];rfl
 ·simp only [Sem.run_bind,run_eqGuard_agg w _ t x y _ _ hg,Result.andThen_ok,run_neq_struct w]
  rw [hr,he];rfl
theorem Mn:∀{ks:List IntKind} {l l':List Int},l.length=ks.length->l'.length=ks.length->n8 (eV ks l) (eV ks l')=true
 | [],[],[],_,_=>rfl
 | k :: ks,a :: l,b :: l',h,h'=>by
  simp only [eV,n8,r8,beq_self_eq_true,Ee]
  exact Mn (by simpa using h) (by simpa using h')
 | [],_ :: _,_,h,_=>by simp at h
 | [],[],_ :: _,_,h=>by simp at h
 | _ :: _,[],_,h,_=>by simp at h
 | _ :: _,_ :: _,[],_,h=>by simp at h
theorem Tf:∀ks:List IntKind,(ks.map λk=>Value.int k 0)=eV ks (ks.map λ_=>0)
 | []=>rfl
 | k :: ks=>by simp only [gS,eV,Tf ks]
theorem U6:∀{ks:List IntKind} {l l':List Int},l.length=ks.length->l'.length=ks.length->qc (eV ks l) (eV ks l')=decide (l=l')
 | [],[],[],_,_=>rfl
 | k :: ks,a :: l,b :: l',h,h'=>by
  simp only [eV,qc,x2,U6 (ks:=ks) (l:=l) (l':=l') (by simpa using h) (by simpa using h'),Eb]
  by_cases e:a=b<;>simp [e]
 | [],_ :: _,_,h,_=>by simp at h
 | [],[],_ :: _,_,h=>by simp at h
 | _ :: _,[],_,h,_=>by simp at h
 | _ :: _,_ :: _,[],_,h=>by simp at h
theorem Rg (em:Bool) (cs:Array Value):∀(fs:List Field) (ks:List IntKind) (l:List Int) (off:Nat),uK P fs (ks.map λk=>.int k 0) off=true->cs.toList.drop off=eV ks l->l.length=ks.length ->
  ∀ w, (forIn (m := Sem) fs PUnit.unit λf _ => if f.name ≠ "_" then (do Instr.checkKey em 9999 f.type (<- part f.type cs f.offset); pure (ForInStep.yield PUnit.unit)) else pure (ForInStep.yield PUnit.unit)).run P w = .ok PUnit.unit w
 | [],ks,l,off,_,_,_,w=>by simp
 | f :: fs,[],l,off,hs,_,_,w=>by simp [uK] at hs
 | f :: fs,k :: ks,[],off,_,_,h,w=>by simp at h
 | f :: fs,k :: ks,a :: l,off,hs,hx,hl,w=>by
  simp only [uK,gS,cu,beq_iff_eq,nY] at hs
  obtain ⟨⟨⟨ho,hn⟩,hf⟩,hs⟩:=hs
  have PS:cs[off]?=some (.int k a):=by
   have:=congrArg (λl=>l[0]?) hx
   simp only [iZ,eV,Es,p8] at this
   simpa using this
  have jy:cs.toList.drop (off+1)=eV ks l:=by rw [<-List.drop_drop,hx];rfl
  have ih:=Rg em cs fs ks l (off+1) hs jy (by simpa using hl) w
  have qo : f.name ≠ "_" := by simpa using hn
  have hk:P.underlying f.type=some (.int k)\/∃k',P.underlying f.type=some (.int k'):=by
   unfold CE at hf
   split at hf
   ·rename_i k0 k' n hu _;exact .inr ⟨_,hu⟩
   ·rename_i e;cases e
   ·rename_i e;cases e
   ·cases hf
  have AR:∀w,(Instr.checkKey em 9999 f.type (.int k a)).run P w=.ok () w:=λw=>by
   show (Instr.checkKey em (9998+1) f.type (.int k a)).run P w=_
   rw [Instr.checkKey]
   rcases hk with hk|⟨k',hk⟩<;>simp only [Sem.run_bind,run_underlying hk,Result.andThen_ok]<;>rfl
  rw [List.forIn_cons]
  simp only [qo,ne_eq,not_false_eq_true,if_true,Sem.run_bind,ho,MN hf cs off _ PS,Result.andThen_ok,AR,Sem.run_pure]
  exact ih
theorem ach {t:TypeId} {ks:List IntKind} (hu:P.underlying t=some (.struct (P.fieldsOf t))) (hp:P.stoodInHeld t=false) (hs:uK P (P.fieldsOf t).toList (ks.map λk=>.int k 0) 0=true):x3 P t (.ints ks) where
 check:=λn hn em w=>by
  have h:=Rg (P:=P) em (eV ks n).toArray (P.fieldsOf t).toList ks n 0 hs (by simp) hn w
  show (Instr.checkKey em (9999+1) t (.agg (eV ks n).toArray)).run P w=_
  rw [Instr.checkKey]
  simp only [Sem.run_bind,run_underlying hu,Result.andThen_ok]
  rw [<-Array.forIn_toList]
  simp at h ⊢
  rw [h]
  rfl
 find:=λn hn es Y5 w=>by
  have eq:∀(n':List Int),n'.length=ks.length->(Op.equal t (.agg (eV ks n).toArray) (.agg (eV ks n').toArray)).run P w=.ok (decide (n=n')) w:=by
   intro n' lU
   have he:=La (P:=P) 9998 (eV ks n).toArray (eV ks n').toArray (P.fieldsOf t).toList _ (eV ks n) (eV ks n') 0 hs (by simp) (by simp) (Mn hn lU) (by rw [Tf];exact Mn hn (by simp)) w
   have hr:=run_equalIn_struct w 9999 t (eV ks n).toArray (eV ks n').toArray hu hp
   unfold Op.equal
   rw [show Op.maxDepth=9999+1 from rfl,hr,he,U6 hn lU]
  have ask:∀(es:List MapEntry) (i:Nat),(∀e∈es,∃n',KD.ok (.ints ks) n'/\e.key=KD.enc (.ints ks) n')->((Instr.findAsking t (.agg (eV ks n).toArray) es i).run P w=.ok none w/\∀e∈es,e.key≠.agg (eV ks n).toArray) \/
    ∃j e,(Instr.findAsking t (.agg (eV ks n).toArray) es i).run P w=.ok (some (i+j,e.val)) w/\es[j]?=some e/\e.key=.agg (eV ks n).toArray:=by
   intro es
   induction es with
   | nil=>intro i _;exact .inl ⟨by simp [Instr.findAsking],by simp⟩
   | cons e es ih =>
    intro i h
    obtain ⟨n',h1,h2⟩:=h e (by simp)
    have h2:e.key=.agg (eV ks n').toArray:=h2
    have hq:=eq n' h1
    by_cases qo:n=n'
    ·right
     refine ⟨0,e,?_,rfl,by rw [h2,qo]⟩
     have hd:decide (n=n')=true:=by simpa using qo
     simp only [Instr.findAsking,Sem.run_bind,h2,hq,hd,Result.andThen_ok]
     simp
    ·have bL:e.key≠.agg (eV ks n).toArray:=by
      rw [h2]
      intro h3
      exact qo (KD.inj (k:=.ints ks) h1 hn h3).symm
     have hd:decide (n=n')=false:=by simpa using qo
     rcases ih (i+1) (λe he=>h e (by simp [he])) with ⟨g1,g2⟩|⟨j,e',g1,g2,g3⟩
     ·left
      refine ⟨?_,?_⟩
      ·simp only [Instr.findAsking,Sem.run_bind,h2,hq,hd,Result.andThen_ok]
       simpa using g1
      ·intro e' fi
       rcases cx.1 fi with rfl|fi
       ·exact bL
       ·exact g2 e' fi
     ·right
      refine ⟨j+1,e',?_,by simpa using g2,g3⟩
      simp only [Instr.findAsking,Sem.run_bind,h2,hq,hd,Result.andThen_ok]
      rw [show i+(j+1)=i+1+j by omega]
      simpa using g1
  show ((Instr.findKey t (.agg (eV ks n).toArray) es).run P w=.ok none w/\_)\/_
  have base:(Instr.findKey t (.agg (eV ks n).toArray) es).run P w=(Instr.findAsking t (.agg (eV ks n).toArray) es 0).run P w\/es=[]:=by
   cases es with
   | nil=>exact .inr rfl
   | cons e es =>
    left
    obtain ⟨n',h1,h2⟩:=Y5 e (by simp)
    have h2:e.key=.agg (eV ks n').toArray:=h2
    simp [Instr.findKey,run_underlying hu,Instr.findNow,h2,Instr.sameNow]
  rcases base with hb|rfl
  ·rcases ask es 0 Y5 with ⟨g1,g2⟩|⟨j,e,g1,g2,g3⟩
   ·exact .inl ⟨hb.trans g1,g2⟩
   ·exact .inr ⟨j,e,hb.trans (by simpa using g1),g2,g3⟩
  ·left
   refine ⟨?_,by simp⟩
   simp [Instr.findKey,run_underlying hu,Instr.findNow]
 stays:=λn hn w=>by
  have all:∀(ks:List IntKind) (l:List Int),((eV ks l).zip (eV ks l)).all (λ(x,y)=>Instr.sameBits 9999 x y)=true:=by
   intro ks
   induction ks with
   | nil=>intro l;cases l<;>rfl
   | cons k ks ih =>
    intro l
    cases l with
    | nil=>rfl
    | cons a l =>
     simp only [eV,List.zip_cons_cons,zn,ih l,Md]
     simp [Instr.sameBits]
  have hs:Instr.sameBits 10000 (.agg (eV ks n).toArray) (.agg (eV ks n).toArray)=true:=by
   rw [show (10000:Nat)=9999+1 from rfl,Instr.sameBits]
   simpa using all ks n
  show (Instr.keyThatStays (.agg (eV ks n).toArray) (.agg (eV ks n).toArray)).run P w=_
  unfold Instr.keyThatStays
  rw [if_pos hs]
  rfl
end
universe u
def C8 {α:Type u}:List (Nat × α)->Nat->Option α
 | [],_=>none
 | (k,x) :: r,n=>match Nat.beq k n with
  | true=>some x
  | false=>C8 r n
def vm {α:Type u} (p:Nat->α->Prop):List (Nat × α)->Prop
 | []=>True
 | (k,x) :: r=>p k x/\vm p r
theorem Ic {α:Type u} {p:Nat->α->Prop}:∀{l:List (Nat × α)},vm p l->∀f x,C8 l f=some x->p f x
 | [],_,f,x,h=>by simp [C8] at h
 | (k,y) :: r,ha,f,x,h=>by
  simp only [C8] at h
  split at h
  ·rename_i e
   simp at h;subst h
   have:=l6 e
   subst this
   exact ha.1
  ·exact Ic ha.2 f x h
theorem XN (n:Nat):(NatCast.natCast n:Int)=(n:Int):=rfl
theorem sP {p:Prop} (h:p:=by ((try simp only [Go.Vc.XN] at *);omega)):p:=h
theorem oo0 {p:Prop} (h:p:=by omega):p:=h
theorem wV {p:Prop} (h:p:=by (((repeat' first|exact cM.nil|exact Le.refl _|refine cM.cons ?_ ?_|exact Le.ic rfl|exact Le.bc rfl|exact Le.i rfl|exact Le.b rfl|exact Le.sl rfl|exact Le.mp rfl|exact Le.fA rfl|exact Le.oq rfl|refine Le.cH rfl (λ_=>?_)|refine Le.dO rfl (λ_ _=>rfl) (λ_=>?_) ?_|refine Le.agg ?_|refine Le.ca ?_|refine Le.fn ?_ ?_|refine Le.dg ?_|exact trivial|refine And.intro ?_ ?_|refine λ_=>?_|exact Le.any _))<;>(first|(refine Le.i ?_;first|exact bI|exact iK|exact rr|exact vn|exact vo|exact Y6|exact Y7|exact hL|exact hL.symm|exact rfl)|(refine Le.sl ?_;first|exact gM|exact AS|exact C9|exact Da|exact Y8|exact Y9|exact Za|exact rfl)|(refine cj.map ?_;first|exact ru|exact Zb|exact Zc|exact Zd|exact Ze|exact Zf|exact Zg|exact rfl)|(refine cj.dyn ?_;first|exact Zh|exact Zi|exact Zj|exact Zk|exact Zl|exact Zm|exact Zn|exact rfl)|(refine Le.ic ?_;first|exact gP|exact yO|exact Kc|exact Zo|exact Zp|exact Zq|exact Zr|exact rfl)|(refine Le.bc ?_;first|exact eW|exact Zs|exact Zt|exact Zu|exact Zv|exact Zw|exact Zx|exact rfl)|(refine Le.b ?_;first|exact nG|exact Zy|exact Zz|exact ZA|exact ZB|exact ZC|exact ZD|exact rfl)|(refine Le.str ?_;first|exact ZE|exact ZF|exact ZG|exact ZH|exact ZI|exact ZJ|exact ZK|exact rfl)|(refine Le.mp ?_;first|exact Gg|exact ZL|exact ZM|exact ZN|exact ZO|exact ZP|exact ZQ|exact rfl)|exact eu|exact pI|exact vp|exact ZR|exact ZS|exact ZT|exact ZU|exact WV 2 ZV|exact cj.iter rfl rfl (.inl rfl)))):p:=h
theorem bp {p:Prop} (h:p:=by (((try cbv)<;>(repeat' (first|with_reducible exact trivial|with_reducible refine And.intro ?_ ?_))<;>(try first|exact cj.refl _|exact cj.dyn rfl|exact cj.map rfl|exact cj.iter rfl rfl (.inl rfl)|exact cj.iter rfl rfl (.inr rfl)|refine cj.fix ?_|refine cj.dyn ?_)<;>((repeat' first|exact cM.nil|exact Le.refl _|refine cM.cons ?_ ?_|exact Le.ic rfl|exact Le.bc rfl|exact Le.i rfl|exact Le.b rfl|exact Le.sl rfl|exact Le.mp rfl|exact Le.fA rfl|exact Le.oq rfl|refine Le.cH rfl (λ_=>?_)|refine Le.dO rfl (λ_ _=>rfl) (λ_=>?_) ?_|refine Le.agg ?_|refine Le.ca ?_|refine Le.fn ?_ ?_|refine Le.dg ?_|exact trivial|refine And.intro ?_ ?_|refine λ_=>?_|exact Le.any _)))<;>(first|(refine Le.i ?_;first|exact bI|exact iK|exact rr|exact vn|exact vo|exact Y6|exact Y7|exact hL|exact hL.symm|exact rfl)|(refine Le.sl ?_;first|exact gM|exact AS|exact C9|exact Da|exact Y8|exact Y9|exact Za|exact rfl)|(refine cj.map ?_;first|exact ru|exact Zb|exact Zc|exact Zd|exact Ze|exact Zf|exact Zg|exact rfl)|(refine cj.dyn ?_;first|exact Zh|exact Zi|exact Zj|exact Zk|exact Zl|exact Zm|exact Zn|exact rfl)|(refine Le.ic ?_;first|exact gP|exact yO|exact Kc|exact Zo|exact Zp|exact Zq|exact Zr|exact rfl)|(refine Le.bc ?_;first|exact eW|exact Zs|exact Zt|exact Zu|exact Zv|exact Zw|exact Zx|exact rfl)|(refine Le.b ?_;first|exact nG|exact Zy|exact Zz|exact ZA|exact ZB|exact ZC|exact ZD|exact rfl)|(refine Le.str ?_;first|exact ZE|exact ZF|exact ZG|exact ZH|exact ZI|exact ZJ|exact ZK|exact rfl)|(refine Le.mp ?_;first|exact Gg|exact ZL|exact ZM|exact ZN|exact ZO|exact ZP|exact ZQ|exact rfl)|exact eu|exact pI|exact vp|exact ZR|exact ZS|exact ZT|exact ZU|exact WV 2 ZV|exact cj.iter rfl rfl (.inl rfl)))):p:=h
theorem bN {p:Prop} (h:p:=by (((try cbv)<;>((repeat' first|exact cM.nil|exact Le.refl _|refine cM.cons ?_ ?_|exact Le.ic rfl|exact Le.bc rfl|exact Le.i rfl|exact Le.b rfl|exact Le.sl rfl|exact Le.mp rfl|exact Le.fA rfl|exact Le.oq rfl|refine Le.cH rfl (λ_=>?_)|refine Le.dO rfl (λ_ _=>rfl) (λ_=>?_) ?_|refine Le.agg ?_|refine Le.ca ?_|refine Le.fn ?_ ?_|refine Le.dg ?_|exact trivial|refine And.intro ?_ ?_|refine λ_=>?_|exact Le.any _)))<;>(first|(refine Le.i ?_;first|exact bI|exact iK|exact rr|exact vn|exact vo|exact Y6|exact Y7|exact hL|exact hL.symm|exact rfl)|(refine Le.sl ?_;first|exact gM|exact AS|exact C9|exact Da|exact Y8|exact Y9|exact Za|exact rfl)|(refine cj.map ?_;first|exact ru|exact Zb|exact Zc|exact Zd|exact Ze|exact Zf|exact Zg|exact rfl)|(refine cj.dyn ?_;first|exact Zh|exact Zi|exact Zj|exact Zk|exact Zl|exact Zm|exact Zn|exact rfl)|(refine Le.ic ?_;first|exact gP|exact yO|exact Kc|exact Zo|exact Zp|exact Zq|exact Zr|exact rfl)|(refine Le.bc ?_;first|exact eW|exact Zs|exact Zt|exact Zu|exact Zv|exact Zw|exact Zx|exact rfl)|(refine Le.b ?_;first|exact nG|exact Zy|exact Zz|exact ZA|exact ZB|exact ZC|exact ZD|exact rfl)|(refine Le.str ?_;first|exact ZE|exact ZF|exact ZG|exact ZH|exact ZI|exact ZJ|exact ZK|exact rfl)|(refine Le.mp ?_;first|exact Gg|exact ZL|exact ZM|exact ZN|exact ZO|exact ZP|exact ZQ|exact rfl)|exact eu|exact pI|exact vp|exact ZR|exact ZS|exact ZT|exact ZU|exact WV 2 ZV|exact cj.iter rfl rfl (.inl rfl)))):p:=h
theorem hS:(∀{a b:Int},jI a b=decide (a<=b))/\(∀{a b:Int},fu a b=decide (a < b))/\(∀{a b:Int},gG a b=(a == b)) /\
  (∀{n:Int},-9223372036854775808<=n->n<=9223372036854775807->IntKind.i64.wrap n=n)/\(∀{a b:Int},((a == b)=true)=(a=b))/\(∀{p:Prop} [Decidable p],(decide p=true)=p) /\
  (∀{p:Prop} [Decidable p],(decide p=false)=¬p)/\(∀{a:Bool},((!a)=true)=(a=false))/\(∀{a b:Int},((a == b)=false)=(a≠b))/\(∀{α:Type} {a b:α},(a≠b)=¬(a=b)) /\
  (∀{a b:Bool},((a&&b)=true)=(a=true/\b=true))/\(∀{a b:Bool},((a||b)=true)=(a=true\/b=true))/\(∀{α:Type} {a b:α},(if True then a else b)=a)/\(∀{α:Type} {a b:α},(if False then a else b)=b) /\
  (∀{a:Bool},(¬(a=true))=(a=false))/\((false=true)=False)/\((true=false)=False)/\(∀{a:Bool},(¬(a=false))=(a=true)):=by
 refine ⟨rfl,rfl,rfl,eP,?_,?_,?_,?_,?_,rfl,?_,?_,?_,?_,?_,?_,?_,?_⟩<;>intros<;>simp
theorem ltT {a b:Nat} (h:fu a b=true):a < b:=by simpa [fu] using h
theorem aiX {a b:Int} (h:fu a b=true):a < b:=by simpa [fu] using h
theorem ltF {a b:Nat} (h:fu a b=false):b<=a:=by simpa [fu] using h
theorem XO {a b:Int} (h:fu a b=false):b<=a:=by simpa [fu] using h
theorem aiY {a b:Int} (h:jI a b=true):a<=b:=by simpa [jI] using h
theorem XP {a b:Int} (h:jI a b=false):b < a:=by simpa [jI] using h
theorem eqT {a b:Int} (h:gG a b=true):a=b:=by simpa [gG] using h
theorem eqF {a b:Int} (h:gG a b=false):¬a=b:=by simpa [gG] using h
theorem neT {a b:Int} (h:(!gG a b)=true):¬a=b:=by simpa [gG] using h
theorem neF {a b:Int} (h:(!gG a b)=false):a=b:=by simpa [gG] using h
theorem aJ {p:Prop} (g:p:=by first|exact aiX h.out|exact ltT h.out|exact eqF h.out|exact eqT h.out|exact XO h.out|exact Int.not_lt.2 (XO h.out)|exact aiY h.out|exact XP h.out|exact Int.not_le.2 (XP h.out)|exact neT h.out|exact neF h.out|(have h':=h.out;simp only [hS] at h';simp only [Go.Vc.XN] at *;omega)|(have h':=h.out;simpa [fu,jI,gG] using h')):p:=g
theorem df0 {x:Unit->Bool} {A B:Prop} (b:B) (h:¬x ()=true:=by simp [gG,Expr.op]):(wE x->A)/\(wF x->B):=⟨λt=>absurd t.out h,λ_=>b⟩
theorem dt0 {x:Unit->Bool} {A B:Prop} (a:A) (h:¬x ()=false:=by simp [gG,Expr.op]):(wE x->A)/\(wF x->B):=⟨λ_=>a,λt=>absurd t.out h⟩
@[reducible] def Kd (T:TypeId->Option TI) (E:TypeId->Option gL) (fs:List (Nat × Func)) (sp:List (Nat × Spec)) (io lp cut row emp:List Nat):Ctx :=
 { tt:=T,el:=E,sp:=λf=>C8 sp (id f),inl:=λf=>C8 fs (id f),io:=λf=>fh f io,lp:=λf=>fh f lp,cut:=λf=>fh f cut,row:=λt=>fh t row,emp:=λt=>fh t emp }
def CB (PP:Unit->Program) (X:Ctx):Prop:=X.Ok (PP ())/\lI X
theorem NT {PP:Unit->Program} {T:TypeId->Option TI} {E:TypeId->Option gL} {fs:List (Nat × Func)} {sp:List (Nat × Spec)} {io lp cut row emp:List Nat} (ht:∀t i,T t=some i->k9 (PP ()) t i)
 (he:∀X:Ctx,X.tt=T->∀t e,E t=some e->Cb (PP ()) X t e) (hm:(PP ()).follows .mixedOrders=true) (hf:vm (λf fn=>kJ (PP ()) f fn/\l8 fn=true) fs) (hs:vm (λf S=>dw (PP ()) f S) sp) :
 CB PP (Kd T E fs sp io lp cut row emp):=⟨⟨ht,he _ rfl,Ic hs,λf fn h=>(Ic hf f fn h).1,hm⟩,λf fn h=>(Ic hf f fn h).2⟩
theorem fo {P : Program} {f : FuncId} {fn : Func} (h : P.funcs[f]? = some fn) (hb : (fn.body.isSome && !(fn.name == "runtime.NumGoroutine")) = true := by kernel_rfl) (hc : l8 fn = true := by kernel_rfl) : kJ P f fn /\ l8 fn = true := ⟨U2 h hb, hc⟩
section
variable {PP:Unit->Program} {X:Ctx} {fid:FuncId} {fn:Func}
theorem fH (B:CB PP X) (F:kJ (PP ()) fid fn/\l8 fn=true) {S:Spec} (bY:∀a,bX (S.args a)) (gu:∀a,LF (S.res a)) (h0:∀a,S.pre a->XI PP X 2 fn (S.args a) (S.res a)) (oG:S.fr=false:=by rfl):dw (PP ()) fid S :=
 acf B.1 B.2 F.1 F.2 bY gu h0 oG
theorem VJ (B:CB PP X) (F:kJ (PP ()) fid fn/\l8 fn=true) {S:Spec} (bY:∀a,bX (S.args a)) (gu:∀a,LF (S.res a)) (h0:∀a,S.pre a->WS PP X 2 fn (S.args a) (S.res a)):dw (PP ()) fid S :=
 abR B.1 B.2 F.1 F.2 bY gu h0
theorem Nq (B:CB PP X) (F:kJ (PP ()) fid fn/\l8 fn=true) {S:oV} (bY:∀a,bX (S.args a)) (gu:∀a y,LF (S.res a y)) (h0:∀a,S.pre a->WR PP X 2 fn S a):rq PP fid S :=
 abQ B.1 B.2 F.1 F.2 bY gu h0
theorem rp (B:CB PP X) (F:kJ (PP ()) fid fn/\l8 fn=true) {Sp:oj} (hw:∀a y,Kb Sp.mv (Sp.io a) (Sp.lz a y)=true) (hm:∀a,Ar Sp.mv 0 (Sp.io a)=true/\C7 (Sp.io a).length Sp.mv=true) (PQ:Sp.mv.Nodup)
 (h0:∀a,Sp.pre a->XM PP X 2 fn Sp a):ma PP fid Sp:=adO B.1 B.2 F.1 F.2 hw hm PQ h0
variable {S:List SV} {r:Bool} {s:St} {body:Code} {k:Exit->St->Prop}
theorem Sat.jN (B:CB PP X) (h:ua S r PP X 2 body s k) (hc:codeOk body=true:=by kernel_rfl):Sat S r PP body s k:=Sat.go B.1 B.2 hc h
theorem Sat.apJ (B:CB PP X) (n:Nat) (h:M4 S r PP X 2 body n s k) (hc:codeOk body=true:=by kernel_rfl):Sat S r PP (.loop body) s k:=Sat.rounds B.1 B.2 hc n h
theorem Sat.aqN (B:CB PP X) {α:Type} (n:Nat) (own:List (Place × Nat)) (I:α->St) (J:α->Prop) (μ:α->Nat) (x0:α) (h0:o8 (s.cut n).t (I x0).t) (pH:lW (s.cut n).b (I x0).b) (hJ:J x0)
 (hr:∀x,J x->ua S r PP X 2 body (I x) (IC S n own I J μ x k)) (hc:codeOk body=true:=by kernel_rfl) (hn:lg (Nat.ble n) S=false:=by rfl):Sat S r PP (.loop body) s k:=Sat.loop B.1 B.2 hc n own I J μ x0 h0 pH hJ hr hn
theorem Sat.eI (B:CB PP X) {α:Type} (n m:Nat) (own:List (Place × Nat)) (ut:α->List (Nat × SV)) (ub:α->List (Nat × Slot)) (J:α->Prop) (μ:α->Nat) (x0:α)
  (h0:o8 (s.cut n).t (s.patch n m (ut x0) (ub x0)).t) (pH:lW (s.cut n).b (s.patch n m (ut x0) (ub x0)).b) (hJ:J x0)
  (hr:∀x,J x->ua S r PP X 2 body (s.patch n m (ut x) (ub x)) (IC S n own (λx=>s.patch n m (ut x) (ub x)) J μ x k)) (hc:codeOk body=true:=by kernel_rfl) (hn:lg (Nat.ble n) S=false:=by rfl):Sat S r PP (.loop body) s k :=
 Sat.ahw B.1 B.2 hc n m own ut ub J μ x0 h0 pH hJ hr hn
end
def oV.fun (S:oV):Spec:={ α:=S.α,args:=S.args,pre:=S.pre,res:=λa=>.opt (S.post a) (S.res a) }
theorem rq.fun {P:Unit->Program} {f:FuncId} {S:oV} {fn:Func} (I:rq P f S) (F:kJ (P ()) f fn):dw (P ()) f S.fun where
 fn:=⟨fn,F⟩
 lf:=I.lf
 lr:=λa=>by show LF (.opt (S.post a) (S.res a));simp only [LF];exact λy=>I.lr a y
 fresh:=λh=>by cases h
 run:=λa dU H F' w vals hH hF jd=>by
  refine (I.run a dU H F' w vals hH hF jd).mono ?_
  rintro e w' ⟨y,v,H',h1,h2,h3,h4,h5,h6,h7,h8⟩
  refine ⟨v,H',h2,h3,h4,h5,h6,?_,h8⟩
  show rel _ _ _ (.opt (S.post a) (S.res a)) v
  simp only [rel]
  exact ⟨⟨y,h1,h7⟩,λt=>I.lr a t⟩
theorem rq.opt {P:Unit->Program} {f:FuncId} {S T:oV} (I:rq P f S) {U:Type} (p:T.α->U->Prop) (x:U->SV) (r:T.α->List SV) (c:T.α->U->S.α) (bY:∀u,LF (x u)) (hr:∀a,bX (r a))
  (hT:∀a,T.args a=.opt (p a) x :: r a) (hS:∀a u,S.args (c a u)=x u :: r a) (hp:∀a u,T.pre a->p a u->S.pre (c a u)) (hb:T.β=S.β) (hq:∀a u y,p a u->T.pre a->S.post (c a u) y->T.post a (hb ▸ y)/\S.res (c a u) y=T.res a (hb ▸ y)) (PT:∀a y,LF (T.res a y)):rq P f T where
 lf:=λa=>by
  rw [hT]
  exact ⟨by simp only [LF];exact bY,hr a⟩
 lr:=PT
 run:=λa dU H F' w vals hH hF jd=>by
  rw [hT] at jd
  simp only [aK,rel] at jd
  obtain ⟨v,vs,rfl,⟨⟨u,hu,hv⟩,_⟩,pA⟩:=jd
  refine (I.run (c a u) (hp a u dU hu) H F' w (v :: vs) hH hF (by rw [hS];simp only [aK];exact ⟨v,vs,rfl,hv,pA⟩)).mono ?_
  rintro e w' ⟨y,v',H',h1,h2,h3,h4,h5,h6,h7,h8⟩
  obtain ⟨q1,q2⟩:=hq a u y hu dU h1
  rw [q2] at h7
  exact ⟨_,v',H',q1,h2,h3,h4,h5,h6,h7,h8⟩
section
variable {H:Type} {enc:TypeId × Value->H} {P:Program} {W W':World}
theorem Rt (hl:laidOutB P=true) (hb:Below W.heap.size W W') {sp:Nat->Bool}:∀{ts:List TypeId} {vs:List Value} {ds:List (DataW H)} {ps:List MemPlace},
  (∀t∈ts,P.readableRec t=true/\t < P.types.size)->DataW.TrodAll enc P W 0 (λ_=>true) true ts vs ds ps->(∀p∈ps,p.block < W.heap.size)->(∀p∈ps,sp p.block=true) ->
  DataW.TrodAll enc P W' 0 sp true ts vs ds ps
 | [],[],[],_,_,h,_,_=>h
 | t :: ts,v :: vs,d :: ds,ps,ht,⟨p,q,h1,h2,e⟩,aP,hs=>by
  subst e
  refine ⟨p,q,?_,?_,rfl⟩
  ·exact WideElems.Trod_stays hl (ht t (by simp)).1 (ht t (by simp)).2 h1 (λx hx=>hb.same (aP x (by simp [hx]))) (λx hx=>hs x (by simp [hx]))
  ·exact Rt hl hb (λu hu=>ht u (by simp [hu])) h2 (λx hx=>aP x (by simp [hx])) (λx hx=>hs x (by simp [hx]))
theorem adP {f:Func} {s:ChangeSpec} {fresh handsOn again:Bool} {args:Array Value} {ds gs:List (DataW H)} {before:List MemPlace}
  (hl:laidOutB P=true) (C0:∀t∈f.params.toList,P.readableRec t=true/\t < P.types.size) {tb:TypeId} (hr:f.resultTypes=#[tb]) (Ke:P.underlying tb=some .bool)
  (wQ:s.vars=[]) (gu:(s.fn H (ds++gs)).results=[.lit (.bool true)]) (lH:(s.fn H (ds++gs)).args=ds) (pA:(s.fn H (ds++gs)).vars=[])
  (hW:DataW.Whole enc P f.params.toList s.vars false W args.toList ds gs before) (hb:Below W.heap.size W W') :
  s.post enc P f false fresh handsOn again W args (.bool true) W':=by
 obtain ⟨p,q,hA,hV,e,Kf,fB⟩:=hW
 have hq:q=[]:=by
  rw [wQ] at hV
  cases gs with
  | nil=>exact hV
  | cons g gs=>exact hV.elim
 subst hq
 have hp:before=p:=by rw [e];simp
 subst hp
 have aP:=DataW.Whole.lt ⟨before,[],hA,hV,by simp,Kf,fB⟩
 have hR:∀(b:Nat) (sp:Nat->Bool) (hd:Bool),DataW.TrodAll enc P W' b sp hd f.resultTypes.toList ((Value.bool true).resultList f.resultTypes.size) (s.fn H (ds++gs)).results []:=by
  intro b sp hd
  rw [hr,gu]
  exact trodAll_cons_mk (shut_bool Ke _) trodAll_mk0
 have ZW:∀sp:Nat->Bool,(∀p∈before,sp p.block=true)->DataW.TrodAll enc P W' 0 sp true f.params.toList args.toList (s.fn H (ds++gs)).args before:=by
  intro sp hs
  rw [lH]
  exact Rt hl hb C0 hA aP hs
 have ZX:∀sp:Nat->Bool,DataW.TrodVars enc P W' sp s.vars (s.fn H (ds++gs)).vars []:=by
  intro sp
  rw [wQ,pA]
  rfl
 refine ⟨ds,gs,before,[],before,[],⟨before,[],hA,hV,by simp,Kf,fB⟩,hR _ _ _,ZW _ (λp hp=>by simpa using aP p hp),ZX _,hb.frame _,λ_=>?_⟩
 refine ⟨?_,_,_,([]++before)++[],⟨[]++before,[],trodAll_append (ZW _ (λ_ _=>rfl)) (hR _ _ _),ZX _,rfl,?_,?_⟩,?_⟩
 ·exact ok_one hr rfl (okWide_bool_mk Ke _)
 ·intro b off hp
  have hp:MemPlace.cell b off∈before:=by simpa using hp
  rw [hb.frozen (aP _ hp)]
  exact Kf b off hp
 ·intro ha;cases ha
 ·intro p hp _
  simpa using hp
theorem abl {w w':World} (h:(gR w).gV w') (h1:w'.os=w.os) (h2:w'.tape=w.tape) (h3:w'.output=w.output):Below w.heap.size w w':=by
 have g:=Hd h h1 h2 h3
 exact ⟨g.os,g.tape,g.output,g.size,λk hk=>g.block k hk (by simp)⟩
theorem adQ {S:Spec} {fid:FuncId} (h:dw P fid S) (a:S.α) (ha:S.pre a) (gu:S.res a=.bc true) {w:World} {vals:List Value} (jd:cQ (gR w) (S.args a) vals) :
  Calls P fid vals.toArray w λe w'=>e=.returned (.bool true)/\Below w.heap.size w w':=by
 refine (h.run a ha (gR w) (gR w) w vals (xq w) (xq w) jd).mono ?_
 rintro e w' ⟨v,H',rfl,_,_,hF,_,hv,h1,h2,h3⟩
 rw [gu] at hv
 simp only [rel] at hv
 subst hv
 exact ⟨rfl,abl hF h1 h2 h3⟩
end
theorem Js {a b:Nat}:(Nat.beq a b=true)=(a=b):=propext ⟨l6,λh=>h ▸ Me a⟩
inductive Ty where
 | int (k:IntKind)
 | bool
 | str
 | sl (e:Ty)
 | unit
 | pair (a b:Ty)
abbrev Ty.nH:Ty->Type
 | .int _=>Int
 | .bool=>Bool
 | .str=>ByteArray
 | .sl e=>List e.nH
 | .unit=>Unit
 | .pair a b=>a.nH × b.nH
def Ty.size:Ty->Nat
 | .unit=>0
 | .pair a b=>a.size+b.size
 | _=>1
def Ty.cells:(T:Ty)->T.nH->List SV
 | .int k,n=>[.i k λ_=>n]
 | .bool,b=>[.b λ_=>b]
 | .str,s=>[.str λ_=>s]
 | .sl e,xs=>[.sl e.size e.cells λ_=>xs]
 | .unit,_=>[]
 | .pair a b,x=>a.cells x.1++b.cells x.2
def Ty.wf:(T:Ty)->T.nH->Prop
 | .int k,n=>k.min<=n/\n<=k.max
 | .bool,_=>True
 | .str,s=>s.size<=maxLen
 | .sl e,xs=>xs.length<=maxLen/\∀x∈xs,e.wf x
 | .unit,_=>True
 | .pair a b,x=>a.wf x.1/\b.wf x.2
def Ty.arg:(T:Ty)->T.nH->SV
 | .int k,n=>.i k λ_=>n
 | .bool,b=>.b λ_=>b
 | .str,s=>.str λ_=>s
 | .sl e,xs=>.sl e.size e.cells λ_=>xs
 | .unit,_=>.agg []
 | .pair a b,x=>.agg (a.cells x.1++b.cells x.2)
theorem Ty.lf:∀(T:Ty) (x:T.nH),bX (T.cells x)
 | .int k,n=>⟨trivial,trivial⟩
 | .bool,b=>⟨trivial,trivial⟩
 | .str,s=>⟨trivial,trivial⟩
 | .sl e,xs=>⟨λx=>e.lf x,trivial⟩
 | .unit,_=>trivial
 | .pair a b,x=>Lm (a.lf x.1) (b.lf x.2)
def ou (T:Ty):Nat->Ty
 | 0=>.unit
 | n+1=>.pair T (ou T n)
def zy (r:TypeId->Option Ty) (c:TypeId->Nat):Nat->List Field->Option Ty
 | _,[]=>some .unit
 | o,f :: fs =>
  match r f.type with
  | some T=>match Nat.beq f.offset o&&Nat.beq (c f.type) T.size with
   | true=>match zy r c (o+T.size) fs with
    | some U=>some (.pair T U)
    | none=>none
   | false=>none
  | none=>none
def sC (P:Program):Nat->TypeId->Option Ty
 | 0,_=>none
 | n+1,t=>match P.underlying t with
  | some (.int k)=>some (.int k)
  | some .bool=>some .bool
  | some .string=>some .str
  | some (.slice e)=>match sC P n e with
   | some T=>match Nat.beq (P.cellsOf e) T.size&&Nat.blt 0 T.size with
    | true=>some (.sl T)
    | false=>none
   | none=>none
  | some (.struct fs)=>match zy (sC P n) P.cellsOf 0 fs.toList with
   | some T=>match Nat.beq (P.cellsOf t) T.size with
    | true=>some T
    | false=>none
   | none=>none
  | some (.array m e)=>match sC P n e with
   | some T=>match Nat.beq (P.cellsOf e) T.size&&Nat.beq (P.cellsOf t) (m*T.size) with
    | true=>some (ou T m)
    | false=>none
   | none=>none
  | _=>none
theorem RE {α:Type} {p:Nat->α->Prop}:∀(n:Nat),(∀i,i < n->∃y,p i y)->∃ys:List α,ys.length=n/\∀i y,ys[i]?=some y->p i y
 | 0,_=>⟨[],rfl,λi y h=>by simp at h⟩
 | n+1,h=>by
  obtain ⟨ys,h1,h2⟩:=RE n λi hi=>h i (by omega)
  obtain ⟨y,hy⟩:=h n (by omega)
  refine ⟨ys++[y],by simp [h1],λi z hz=>?_⟩
  rw [DZ] at hz
  split at hz
  ·exact h2 i z hz
  ·rename_i hi
   have:i=n:=by
    have:=(bh.1 hz).1
    simp at this;omega
   subst this
   simp [h1] at hz
   subst hz;exact hy
section
variable {H:Type} {enc:TypeId × Value->H} {P:Program} {W:World} {base:Nat} {sp:Nat->Bool} {held:Bool}
def NU (enc:TypeId × Value->H) (P:Program) (W:World) (base:Nat) (sp:Nat->Bool) (held:Bool) (m:Nat) (t:TypeId) (T:Ty):Prop :=
 ∀cs x,DataW.trod enc P W base sp held m t cs=some x->∃y:T.nH,T.wf y/\cs.length=T.size/\cQ (gR W) (T.cells y) cs
theorem RG {n m:Nat} (ih:∀t T,sC P n t=some T->NU enc P W base sp held m t T):∀(fs:List Field) (o:Nat) (T:Ty) (cs:List Value) (xs:List (DataW H × List MemPlace)),
  zy (sC P n) P.cellsOf o fs=some T->fs.mapM (λf=>DataW.trod enc P W base sp held m f.type ((cs.drop f.offset).take (P.cellsOf f.type)))=some xs->cs.length=o+T.size ->
  ∃y:T.nH,T.wf y/\cQ (gR W) (T.cells y) (cs.drop o)
 | [],o,T,cs,xs,h,_,hl=>by
  simp [zy] at h;subst h
  refine ⟨(),trivial,?_⟩
  have:cs.drop o=[]:=by simp;simp [Ty.size] at hl;omega
  rw [this];simp [Ty.cells,aK]
 | f :: fs,o,T,cs,xs,h,hm,hl=>by
  unfold zy at h
  split at h<;>try (cases h;done)
  rename_i T1 h1
  split at h<;>try (cases h;done)
  rename_i h2
  split at h<;>try (cases h;done)
  rename_i U h3
  simp at h;subst h
  simp only [cu,Js] at h2
  rw [Ec] at hm
  simp only [bind,LC,pure,pX] at hm
  obtain ⟨a,ha,as,has,rfl⟩:=hm
  rw [h2.1,h2.2] at ha
  obtain ⟨y,jx,nD,PU⟩:=ih _ _ h1 _ _ ha
  simp only [Ty.size] at hl
  obtain ⟨z,yI,sH⟩:=RG ih fs (o+T1.size) U cs as h3 has (by omega)
  refine ⟨(y,z),⟨jx,yI⟩,?_⟩
  have e:cs.drop o=(cs.drop o).take T1.size++cs.drop (o+T1.size):=by rw [<-List.drop_drop,List.take_append_drop]
  rw [e]
  exact gC PU sH
theorem Tg {m c:Nat} {e:TypeId} {T:Ty} (ih:NU enc P W base sp held m e T) (hc:c=T.size):∀(k o:Nat) (cs:List Value) (xs:List (DataW H × List MemPlace)),
  (List.range' o k).mapM (λi=>DataW.trod enc P W base sp held m e ((cs.drop (i*c)).take c))=some xs->cs.length=(o+k)*c ->
  ∃y:(ou T k).nH,(ou T k).wf y/\cQ (gR W) ((ou T k).cells y) (cs.drop (o*c))
 | 0,o,cs,xs,_,hl=>by
  refine ⟨(),trivial,?_⟩
  have:cs.drop (o*c)=[]:=by simp;rw [hl];simp
  rw [this];simp [ou,Ty.cells,aK]
 | k+1,o,cs,xs,hm,hl=>by
  rw [List.range'_succ,Ec] at hm
  simp only [bind,LC,pure,pX] at hm
  obtain ⟨a,ha,as,has,rfl⟩:=hm
  obtain ⟨y,jx,nD,PU⟩:=ih _ _ ha
  obtain ⟨z,yI,sH⟩:=Tg ih hc k (o+1) cs as has (by rw [hl];congr 1;omega)
  refine ⟨(y,z),⟨jx,yI⟩,?_⟩
  have e:cs.drop (o*c)=(cs.drop (o*c)).take c++cs.drop ((o+1)*c):=by
   rw [show (o+1)*c=o*c+c by rw [Nat.add_mul];omega,<-List.drop_drop,List.take_append_drop]
  rw [e]
  exact gC PU sH
theorem Ty.Ug (T:Ty):∀k,(ou T k).size=k*T.size
 | 0=>by simp [ou,Ty.size]
 | k+1=>by simp only [ou,Ty.size];rw [Ty.Ug T k,Nat.add_mul];omega
theorem opens:∀(n:Nat) (t:TypeId) (T:Ty),sC P n t=some T->∀m,NU enc P W base sp held m t T
 | 0,t,T,h,_=>by cases h
 | n+1,t,T,h,0=>by
  intro cs x hx
  simp [DataW.trod] at hx
 | n+1,t,T,h,m+1=>by
  intro cs x hx
  unfold sC at h
  split at h
  ·rename_i k hk
   simp at h;subst h
   obtain ⟨z,rfl,_,hw⟩:=DataW.trod_int hk hx
   exact ⟨z,by simpa [Ty.wf,Lit.wf] using hw,rfl,by simp [Ty.cells,aK,rel]⟩
  ·rename_i hk
   simp at h;subst h
   obtain ⟨z,rfl,_⟩:=DataW.trod_bool hk hx
   exact ⟨z,trivial,rfl,by simp [Ty.cells,aK,rel]⟩
  ·rename_i hk
   simp at h;subst h
   obtain ⟨z,rfl,_,hw⟩:=DataW.trod_string hk hx
   exact ⟨z,hw,rfl,by simp [Ty.cells,aK,rel]⟩
  ·rename_i e hk
   split at h<;>try (cases h;done)
   rename_i E hE
   split at h<;>try (cases h;done)
   rename_i hc
   simp at h;subst h
   simp only [cu,Js,BD] at hc
   obtain ⟨hc,kL⟩:=hc
   have lf:∀x:E.nH,bX (E.cells x):=E.lf
   rcases DataW.trod_slice hk hx with ⟨rfl,_⟩|⟨a,len,cap,elems,rest,k,_,rfl,_,hb,hle,hm,hlen,PV,_⟩
   ·refine ⟨[],⟨cP _,by simp⟩,rfl,?_⟩
    simp only [Ty.cells,aK,rel]
    exact ⟨_,[],rfl,⟨⟨none,0,rfl,by simp,.inl trivial⟩,lf⟩,rfl⟩
   ·obtain ⟨ys,jx,nD⟩:=RE (p:=λi (y:E.nH)=>E.wf y/\∃us,W.cells? base (a.add (i*E.size)) E.size=some us/\us.length=E.size/\cQ (gR W) (E.cells y) us) len (λi hi=>by
     have h1:=PV i hi
     rw [dE (by omega),hc] at h1
     rw [LC] at h1
     obtain ⟨us,h2,h3⟩:=h1
     obtain ⟨y,h4,h5,h6⟩:=opens n e E hE k us _ h3
     exact ⟨y,h4,us,h2,h5,h6⟩)
    refine ⟨ys,⟨by omega,λx hx=>?_⟩,rfl,?_⟩
    ·obtain ⟨i,hi⟩:=pW hx
     exact (nD i x hi).1
    ·simp only [Ty.cells,aK,rel]
     refine ⟨_,[],rfl,⟨⟨some a,cap,by rw [jx],by rw [jx];exact hle,?_⟩,lf⟩,rfl⟩
     by_cases hz:ys=[]
     ·exact .inl hz
     right
     have h0:0 < ys.length:=by cases ys with|nil=>exact absurd rfl hz|cons=>simp
     have fx:a.spot=none:=by
      obtain ⟨_,us,h1,h2,_⟩:=nD 0 _ (dE h0)
      have h3:=(World.cells?_some h1).2.2 0 kL
      rw [Nat.zero_mul] at h3
      have lR:W.cell? ((a.add 0).add 0)=some us[0]:=by rw [h3,dE (by omega)]
      unfold World.cell? at lR
      split at lR
      ·cases a with
       | mk b o s=>cases s<;>simp_all [Addr.add]
      ·cases lR
     refine ⟨a,rfl,fx,λj x hx=>?_⟩
     obtain ⟨_,us,h1,h2,h3⟩:=nD j x hx
     refine ⟨us,h2,h3,λi u hu=>?_⟩
     have hi:i < E.size:=by rw [<-h2];exact (bh.1 hu).1
     have h4:=(World.cells?_some h1).2.2 i hi
     rw [hu,nV _ fx,pk] at h4
     exact abF h4
  ·rename_i fs hk
   split at h<;>try (cases h;done)
   rename_i U hU
   split at h<;>try (cases h;done)
   rename_i hc
   simp at h;subst h
   simp only [Js] at hc
   rw [DataW.trod_step] at hx
   unfold DataW.trodStep at hx
   simp only [hk] at hx
   split at hx<;>try (cases hx;done)
   rename_i hl
   simp only [Et] at hx
   obtain ⟨xs,hx,_⟩:=hx
   obtain ⟨y,h1,h2⟩:=RG (λt T hT=>opens n t T hT m) fs.toList 0 U cs xs hU hx (by omega)
   exact ⟨y,h1,by omega,by simpa using h2⟩
  ·rename_i k e hk
   split at h<;>try (cases h;done)
   rename_i E hE
   split at h<;>try (cases h;done)
   rename_i hc
   simp at h;subst h
   simp only [cu,Js] at hc
   rw [DataW.trod_step] at hx
   unfold DataW.trodStep at hx
   simp only [hk] at hx
   split at hx<;>try (cases hx;done)
   rename_i hl
   simp only [Et] at hx
   obtain ⟨xs,hx,_⟩:=hx
   rw [hc.1,List.range_eq_range'] at hx
   obtain ⟨y,h1,h2⟩:=Tg (opens n e E hE m) rfl k 0 cs xs hx (by rw [hl,hc.2];simp)
   exact ⟨y,h1,by rw [Ty.Ug];omega,by simpa using h2⟩
  ·cases h
theorem M6 {n:Nat} {t:TypeId} {T:Ty} (hT:sC P n t=some T) {r:Reach} {b0:Nat} {v:Value} {d:DataW H} {ps:List MemPlace} (q7:Value.okWide P W r b0 t v) (hd:DataW.Trod enc P W base sp held t v d ps) :
  ∃y:T.nH,T.wf y/\cQ (gR W) [T.arg y] [v]:=by
 obtain ⟨fuel,hf⟩:=hd
 obtain ⟨y,h1,h2,h3⟩:=opens n t T hT fuel _ _ hf
 refine ⟨y,h1,?_⟩
 have agg:∀cs:Array Value,v=.agg cs->cQ (gR W) [SV.agg (T.cells y)] [v]:=by
  rintro cs rfl
  simp only [aK,rel]
  exact ⟨_,[],rfl,⟨cs.toList,rfl,h3⟩,rfl⟩
 have one:(∀cs:Array Value,v≠.agg cs)->cQ (gR W) (T.cells y) [v]:=by
  intro hn
  have:v.cells.toList=[v]:=by
   cases v<;>try rfl
   rename_i cs;exact absurd rfl (hn cs)
  rw [this] at h3;exact h3
 cases n with
 | zero=>cases hT
 | succ n =>
  unfold sC at hT
  split at hT
  ·rename_i k hk
   simp at hT;subst hT
   obtain ⟨z,rfl⟩:=okWide_int hk q7
   exact one (by simp)
  ·rename_i hk
   simp at hT;subst hT
   obtain ⟨z,rfl⟩:=okWide_bool hk q7
   exact one (by simp)
  ·rename_i hk
   simp at hT;subst hT
   obtain ⟨z,rfl⟩:=okWide_string hk q7
   exact one (by simp)
  ·rename_i e hk
   split at hT<;>try (cases hT;done)
   split at hT<;>try (cases hT;done)
   simp at hT;subst hT
   obtain ⟨a,len,cap,rfl⟩:=okWide_slice hk q7
   exact one (by simp)
  ·rename_i fs hk
   have OB:∃cs,v=.agg cs:=by
    simp only [Value.okWide,hk] at q7
    obtain ⟨cs,h,_⟩:=q7
    exact ⟨cs,h⟩
   obtain ⟨cs,fv⟩:=OB
   split at hT<;>try (cases hT;done)
   rename_i U hU
   split at hT<;>try (cases hT;done)
   simp at hT;subst hT
   have:U.arg y=.agg (U.cells y):=by
    generalize fs.toList=l at hU
    cases l with
    | nil=>simp [zy] at hU;subst hU;rfl
    | cons f r =>
     unfold zy at hU
     split at hU<;>try (cases hU;done)
     split at hU<;>try (cases hU;done)
     split at hU<;>try (cases hU;done)
     simp at hU;subst hU;rfl
   rw [this]
   exact agg cs fv
  ·rename_i k e hk
   have OB:∃cs,v=.agg cs:=by
    simp only [Value.okWide,hk] at q7
    obtain ⟨cs,h,_⟩:=q7
    exact ⟨cs,h⟩
   obtain ⟨cs,fv⟩:=OB
   split at hT<;>try (cases hT;done)
   split at hT<;>try (cases hT;done)
   simp at hT;subst hT
   rename_i E _ _ _
   have:(ou E k).arg y=.agg ((ou E k).cells y):=by
    cases k<;>rfl
   rw [this]
   exact agg cs fv
  ·cases hT
end
section
variable {f:Fr} {s:St} {η:Nat->Value} {H:aV} {a:Act} {w:World} {S:List SV} {r:Bool}
theorem Uh {T:Type} {c:T->List SV}:∀{xs:List T} {vals:List Value},vals.length=xs.length->(∀(j:Nat) x,xs[j]?=some x->∃u,vals[j]?=some u/\cQ H (c x) [u])->cQ H (xs.flatMap c) vals
 | [],vals,hl,_=>by
  have:vals=[]:=gI hl
  subst this;rfl
 | x :: xs,[],hl,_=>by simp at hl
 | x :: xs,v :: vals,hl,h=>by
  obtain ⟨u,h1,h2⟩:=h 0 x rfl
  simp at h1;subst h1
  rw [oM]
  exact gC (v:=[v]) h2 (Uh (by simpa using hl) λj y hy=>by
   obtain ⟨u,h3,h4⟩:=h (j+1) y (by simpa using hy)
   exact ⟨u,by simpa using h3,h4⟩)
theorem pn.aiZ {e:TypeId} {v:Value} {n:Nat} {vals:List Value} (h:pn w e 1 v n vals):vals.length=n:=by
 rcases h with ⟨h,_⟩|⟨_,h1,h2⟩
 ·have:=h.1;omega
 ·rw [h1,h2];rfl
theorem Den.fill (D:Den f s η H a w) {m:Nat} {T:Type} {e:TypeId} {c:T->List SV} {xs:Unit->List T} {i:Unit->Nat} {ys:List SV} (hm:s.b[m]?=some (.e7 e c xs i ys)) (t:T) (ht:cM ys (c t)) :
  Den f ⟨s.t,s.b.set m (.dyn e 1 c λ_=>(xs ()).set (i ()) t)⟩ η H a w:=by
 have cJ:aN s.b m=.live:=by rw [bR hm];rfl
 refine D.change (w':=w) (η':=η) (l:=m) (x:=.dyn e 1 c λ_=>(xs ()).set (i ()) t) none (b':=s.b.set m _) rfl (λ_ _=>rfl) (.inr ⟨cJ,rfl,rfl⟩) rfl (λ_ h=>by cases h) none (nU w none) (λk hk=>by cases hk)
  (λb hb=>.inr (.inr ⟨cJ,hb⟩)) λT=>?_
 obtain ⟨vals,h1,h2,⟨u,h3,h4⟩,h5,h6⟩:=D.sl m _ hm
 have h7:cQ H (c t) [u]:=ja _ _ (h6 t).1 (iw ht h4)
 have hl:=h1.aiZ
 refine ⟨vals,by simpa using h1,Uh (by simpa using hl) λj x hx=>?_,λx hx=>?_,h6⟩
 ·rw [iN] at hx
  split at hx
  ·rename_i e
   split at hx
   ·simp at hx;subst hx
    exact ⟨u,by rw [<-e];exact h3,h7⟩
   ·cases hx
  ·rename_i e
   exact h2 j x hx λq=>e q.symm
 ·rcases Er hx with hx|rfl
  ·exact h5 x hx
  ·have:=gZ h7;simp at this;omega
theorem Sat.fill {P:Unit->Program} {co:Code} {k:Exit->St->Prop} (m:Nat) {T:Type} {e:TypeId} {c:T->List SV} {xs:Unit->List T} {i:Unit->Nat} {ys:List SV} (hm:s.b[m]?=some (.e7 e c xs i ys)) (t:T) (ht:cM ys (c t))
 (h:Sat S r P co ⟨s.t,s.b.set m (.dyn e 1 c λ_=>(xs ()).set (i ()) t)⟩ k):Sat S r P co s k:=⟨λF R f η H a w hS D=>h.out F R f η H a w hS (D.fill hm t ht)⟩
end
end Go.Vc
