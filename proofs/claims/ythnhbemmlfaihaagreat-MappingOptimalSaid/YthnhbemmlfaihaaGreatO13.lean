import Derived.Test.YthnhbemmlfaihaaGreatO11
import Derived.Test.YthnhbemmlfaihaaGreatO12
import Derived.KernelRfl
import Derived.Carry
import Derived.ProofKit
import Derived.OpenShut
set_option linter.unusedVariables false
set_option linter.unusedSimpArgs false
set_option maxRecDepth 10000
set_option maxHeartbeats 64000000
namespace Go.Vc
open Go Go.ChangeShapes Go.WideShapes Go.ChangeAt Go.RowKit
def abi (P:Program) (t:TypeId):TD->Bool
 | .int k=>match P.underlying t with|some (.int k')=>k == k'|_=>false
 | .bool=>match P.underlying t with|some .bool=>true|_=>false
 | .str=>match P.underlying t with|some .string=>true|_=>false
 | .sl e=>match P.underlying t with|some (.slice e')=>e == e'|_=>false
 | .ptr e=>match P.underlying t with|some (.pointer e')=>e == e'|_=>false
 | .st gs=>match P.underlying t with
  | some (.struct fs)=>(fs.toList.map λf=>(f.type,f.offset,P.cellsOf f.type)) == gs&&gs.all (λg=>Nat.blt 0 g.2.2)
  | _=>false
 | .arr n e=>match P.underlying t with|some (.array n' e')=>n == n'&&e == e'|_=>false
 | .map k v=>match P.underlying t with|some (.map k' v')=>k == k'&&v == v'|_=>false
 | .other=>match P.underlying t with|some (.struct _)=>false|some (.array _ _)=>false|some _=>true|none=>false
def TY (P:Program) (t:TypeId) (i:TI):Bool :=
 (match P.info? t with|some inf=>inf.size == i.size&&inf.bytes == i.bytes|none=>false)&&i.zero.cells.size == i.size&&Nat.blt 0 i.size&&abi P t i.d
theorem Zl {P:Program} {t:TypeId} {i:TI} (hz:(P.info? t).map (·.zero)=some (some i.zero)) (hb:TY P t i=true)
  (hf:i.flat=true->i.agg=true/\∀(vs us:List Value) (w:World),vs.length=i.size->us.length=i.size ->
   pH vs us=true->pH vs i.zero.cells.toList=true->∀op x y,(op=.eql\/op=.neq) ->
   (do eqGuard op t x y (.agg vs.toArray) (.agg us.toArray);binOp op t (.agg vs.toArray) (.agg us.toArray):Sem Value).run P w =
    .ok (.bool (if op=.eql then rV vs us else !rV vs us)) w)
  (hk:∀ks,i.kd=some ks->Ak P t (.ints ks):=by intro _ h;cases h):my P t i:=by
 unfold TY at hb
 simp only [cG,beq_iff_eq] at hb
 obtain ⟨⟨⟨h1,h2⟩,h3⟩,h4⟩:=hb
 refine ⟨?_,h2,by simpa [Ei] using h3,?_,hf,hk⟩
 ·cases hi:P.info? t with
  | none=>rw [hi] at hz;cases hz
  | some inf =>
   rw [hi] at hz h1
   simp at hz h1
   exact ⟨inf,rfl,h1.1,h1.2,hz⟩
 ·cases hd:i.d<;>rw [hd] at h4<;>simp only [abi] at h4 ⊢
  case int k=>split at h4<;>first|(simp at h4;subst h4;assumption)|cases h4
  case bool=>split at h4<;>first|assumption|cases h4
  case str=>split at h4<;>first|assumption|cases h4
  case sl e=>split at h4<;>first|(simp at h4;subst h4;assumption)|cases h4
  case ptr e=>split at h4<;>first|(simp at h4;subst h4;assumption)|cases h4
  case arr n e=>split at h4<;>first|(simp at h4;obtain ⟨rfl,rfl⟩:=h4;assumption)|cases h4
  case map k v=>split at h4<;>first|(simp at h4;obtain ⟨rfl,rfl⟩:=h4;assumption)|cases h4
  case st gs =>
   split at h4
   ·rename_i fs hu
    simp only [cG,beq_iff_eq,gM] at h4
    obtain ⟨e,r9⟩:=h4
    refine ⟨fs,hu,by rw [<-e];simp,λj f hj=>?_⟩
    have hg:gs[j]?=some (f.type,f.offset,P.cellsOf f.type):=by rw [<-e];simp [hj]
    have hp:=r9 _ (cf hg)
    unfold Program.cellsOf at hp hg
    cases hi:P.info? f.type with
    | none=>rw [hi] at hp;simp [Ei] at hp
    | some inf =>
     rw [hi] at hp hg
     refine ⟨inf,rfl,?_,by simpa using hg⟩
     have:0 < inf.size:=by simpa [Ei] using hp
     omega
   ·cases h4
  case other =>
   split at h4
   ·cases h4
   ·cases h4
   ·rename_i d h5 h6 hu
    exact ⟨d,hu,λx e=>h5 x e,λn e' e=>h6 n e' e⟩
   ·cases h4
theorem QE {P : Program} {f : FuncId} {fn : Func} (h : P.funcs[f]? = some fn) (hb : (fn.body.isSome && !(fn.name == "runtime.NumGoroutine")) = true) : lD P f fn := by
 simp only [cG,oY] at hb
 exact ⟨h,hb.1,hb.2⟩
theorem cW {n:Int} (h1:-9223372036854775808<=n) (h2:n<=9223372036854775807):IntKind.i64.wrap n=n:=by
 rw [IntKind.wrap_i64]
 omega
def Fm (P:Program) (t:TypeId) (z:Value):Bool :=
 match P.underlying t,z with
 | some (.int _),.int _ _=>true
 | some .bool,.bool _=>true
 | some .string,.string _=>true
 | _,_=>false
section
variable {P:Program}
theorem aho {t:TypeId} {z:Value} (hf:Fm P t z=true) (d:Nat) (a b:Value) (h:um a b=true) (hz:um a z=true) (w:World) :
  (Op.equalIn (d+1) t a b).run P w=.ok (Aj a b) w:=by
 unfold Fm at hf
 split at hf
 ·rename_i k k' n hu
  cases a<;>simp [um] at hz
  cases b<;>simp [um] at h
  subst h
  simp [Op.equalIn,run_underlying hu,Aj]
 ·rename_i c hu
  cases a<;>simp [um] at hz
  cases b<;>simp [um] at h
  simp [Op.equalIn,run_underlying hu,Aj]
 ·rename_i c hu
  cases a<;>simp [um] at hz
  cases b<;>simp [um] at h
  simp [Op.equalIn,run_underlying hu,Aj]
 ·cases hf
theorem Ql {t:TypeId} {z:Value} (hf:Fm P t z=true) (cs:Array Value) (off:Nat) (v:Value) (hv:cs[off]?=some v) (w:World):(part t cs off).run P w=.ok v w:=by
 unfold Fm at hf
 split at hf
 ·rename_i k k' n hu;simp [part,isAgg,run_underlying hu,hv]
 ·rename_i c hu;simp [part,isAgg,run_underlying hu,hv]
 ·rename_i c hu;simp [part,isAgg,run_underlying hu,hv]
 ·cases hf
def wT (P:Program):List Field->List Value->Nat->Bool
 | [],[],_=>true
 | f :: fs, z :: zs, off => f.offset == off && !(f.name == "_") && Fm P f.type z && wT P fs zs (off + 1)
 | _,_,_=>false
theorem OO (d:Nat) (xs ys:Array Value):∀(fs:List Field) (zs vs us:List Value) (off:Nat),wT P fs zs off=true->xs.toList.drop off=vs->ys.toList.drop off=us->pH vs us=true->pH vs zs=true ->
  ∀w,(Op.eqFields (d+1) xs ys fs).run P w=.ok (rV vs us) w
 | [],zs,vs,us,off,hs,hx,hy,h1,h2,w=>by
  cases zs with
  | cons _ _=>simp [wT] at hs
  | nil =>
   cases vs with
   | cons _ _=>simp [pH] at h2
   | nil=>simp [Op.eqFields,rV]
 | f :: fs,[],vs,us,off,hs,hx,hy,h1,h2,w=>by simp [wT] at hs
 | f :: fs,z :: zs,vs,us,off,hs,hx,hy,h1,h2,w=>by
  simp only [wT,cG,beq_iff_eq,oY] at hs
  obtain ⟨⟨⟨ho,hn⟩,hf⟩,hs⟩:=hs
  cases vs with
  | nil=>simp [pH] at h2
  | cons v vs =>
   cases us with
   | nil=>simp [pH] at h1
   | cons u us =>
    simp only [pH,cG] at h1 h2
    have TZ:xs[off]?=some v:=by
     have:=congrArg (λl=>l[0]?) hx
     simp only [kb,GS,qV] at this
     simpa using this
    have hux:ys[off]?=some u:=by
     have:=congrArg (λl=>l[0]?) hy
     simp only [kb,GS,qV] at this
     simpa using this
    have nt:xs.toList.drop (off+1)=vs:=by rw [<-List.drop_drop,hx];rfl
    have nV:ys.toList.drop (off+1)=us:=by rw [<-List.drop_drop,hy];rfl
    have ih:=OO d xs ys fs zs vs us (off+1) hs nt nV h1.2 h2.2 w
    have sw : f.name ≠ "_" := by simpa using hn
    simp only [Op.eqFields]
    rw [if_pos sw]
    simp only [Sem.run_bind,ho,Ql hf xs off v TZ,Ql hf ys off u hux,Result.andThen_ok,aho hf d v u h1.1 h2.1,rV]
    cases hq:Aj v u
    ·simp
    ·simpa using ih
theorem ag3 {t:TypeId} {zs:List Value} (hu:P.underlying t=some (.struct (P.fieldsOf t))) (hp:P.stoodInHeld t=false) (hg:P.eqGuardType P.depth t=false) (hs:wT P (P.fieldsOf t).toList zs 0=true)
  (vs us:List Value) (w:World) (h1:pH vs us=true) (h2:pH vs zs=true) (op:BinOp) (x y:Operand) (eQ:op=.eql\/op=.neq) :
  (do eqGuard op t x y (.agg vs.toArray) (.agg us.toArray);binOp op t (.agg vs.toArray) (.agg us.toArray):Sem Value).run P w=.ok (.bool (if op=.eql then rV vs us else !rV vs us)) w:=by
 have he:=OO (P:=P) 9998 vs.toArray us.toArray (P.fieldsOf t).toList zs vs us 0 hs (by simp) (by simp) h1 h2 w
 have hr:=run_equalIn_struct w 9999 t vs.toArray us.toArray hu hp
 rcases eQ with rfl|rfl
 ·simp only [Sem.run_bind,run_eqGuard_agg w _ t x y _ _ hg,Result.andThen_ok,run_eql_struct w]
  rw [hr,he];rfl
 ·simp only [Sem.run_bind,run_eqGuard_agg w _ t x y _ _ hg,Result.andThen_ok,run_neq_struct w]
  rw [hr,he];rfl
theorem PT:∀{ks:List IntKind} {l l':List Int},l.length=ks.length->l'.length=ks.length->pH (fE ks l) (fE ks l')=true
 | [],[],[],_,_=>rfl
 | k :: ks,a :: l,b :: l',h,h'=>by
  simp only [fE,pH,um,beq_self_eq_true,Ha]
  exact PT (by simpa using h) (by simpa using h')
 | [],_ :: _,_,h,_=>by simp at h
 | [],[],_ :: _,_,h=>by simp at h
 | _ :: _,[],_,h,_=>by simp at h
 | _ :: _,_ :: _,[],_,h=>by simp at h
theorem Xm:∀ks:List IntKind,(ks.map λk=>Value.int k 0)=fE ks (ks.map λ_=>0)
 | []=>rfl
 | k :: ks=>by simp only [iG,fE,Xm ks]
theorem Zm:∀{ks:List IntKind} {l l':List Int},l.length=ks.length->l'.length=ks.length->rV (fE ks l) (fE ks l')=decide (l=l')
 | [],[],[],_,_=>rfl
 | k :: ks,a :: l,b :: l',h,h'=>by
  simp only [fE,rV,Aj,Zm (ks:=ks) (l:=l) (l':=l') (by simpa using h) (by simpa using h'),KU]
  by_cases e:a=b<;>simp [e]
 | [],_ :: _,_,h,_=>by simp at h
 | [],[],_ :: _,_,h=>by simp at h
 | _ :: _,[],_,h,_=>by simp at h
 | _ :: _,_ :: _,[],_,h=>by simp at h
theorem Vx (em:Bool) (cs:Array Value):∀(fs:List Field) (ks:List IntKind) (l:List Int) (off:Nat),wT P fs (ks.map λk=>.int k 0) off=true->cs.toList.drop off=fE ks l->l.length=ks.length ->
  ∀ w, (forIn (m := Sem) fs PUnit.unit λf _ => if f.name ≠ "_" then (do Instr.checkKey em 9999 f.type (<- part f.type cs f.offset); pure (ForInStep.yield PUnit.unit)) else pure (ForInStep.yield PUnit.unit)).run P w = .ok PUnit.unit w
 | [],ks,l,off,_,_,_,w=>by simp
 | f :: fs,[],l,off,hs,_,_,w=>by simp [wT] at hs
 | f :: fs,k :: ks,[],off,_,_,h,w=>by simp at h
 | f :: fs,k :: ks,a :: l,off,hs,hx,hl,w=>by
  simp only [wT,iG,cG,beq_iff_eq,oY] at hs
  obtain ⟨⟨⟨ho,hn⟩,hf⟩,hs⟩:=hs
  have TZ:cs[off]?=some (.int k a):=by
   have:=congrArg (λl=>l[0]?) hx
   simp only [kb,fE,GS,qV] at this
   simpa using this
  have nt:cs.toList.drop (off+1)=fE ks l:=by rw [<-List.drop_drop,hx];rfl
  have ih:=Vx em cs fs ks l (off+1) hs nt (by simpa using hl) w
  have sw : f.name ≠ "_" := by simpa using hn
  have hk:P.underlying f.type=some (.int k)\/∃k',P.underlying f.type=some (.int k'):=by
   unfold Fm at hf
   split at hf
   ·rename_i k0 k' n hu _;exact .inr ⟨_,hu⟩
   ·rename_i e;cases e
   ·rename_i e;cases e
   ·cases hf
  have Jj:∀w,(Instr.checkKey em 9999 f.type (.int k a)).run P w=.ok () w:=λw=>by
   show (Instr.checkKey em (9998+1) f.type (.int k a)).run P w=_
   rw [Instr.checkKey]
   rcases hk with hk|⟨k',hk⟩<;>simp only [Sem.run_bind,run_underlying hk,Result.andThen_ok]<;>rfl
  rw [List.forIn_cons]
  simp only [sw,ne_eq,not_false_eq_true,if_true,Sem.run_bind,ho,Ql hf cs off _ TZ,Result.andThen_ok,Jj,Sem.run_pure]
  exact ih
theorem ahp {t:TypeId} {ks:List IntKind} (hu:P.underlying t=some (.struct (P.fieldsOf t))) (hp:P.stoodInHeld t=false) (hs:wT P (P.fieldsOf t).toList (ks.map λk=>.int k 0) 0=true):Ak P t (.ints ks) where
 check:=λn hn em w=>by
  have h:=Vx (P:=P) em (fE ks n).toArray (P.fieldsOf t).toList ks n 0 hs (by simp) hn w
  show (Instr.checkKey em (9999+1) t (.agg (fE ks n).toArray)).run P w=_
  rw [Instr.checkKey]
  simp only [Sem.run_bind,run_underlying hu,Result.andThen_ok]
  rw [<-Array.forIn_toList]
  simp at h ⊢
  rw [h]
  rfl
 find:=λn hn es hes w=>by
  have eq:∀(n':List Int),n'.length=ks.length->(Op.equal t (.agg (fE ks n).toArray) (.agg (fE ks n').toArray)).run P w=.ok (decide (n=n')) w:=by
   intro n' nv
   have he:=OO (P:=P) 9998 (fE ks n).toArray (fE ks n').toArray (P.fieldsOf t).toList _ (fE ks n) (fE ks n') 0 hs (by simp) (by simp) (PT hn nv) (by rw [Xm];exact PT hn (by simp)) w
   have hr:=run_equalIn_struct w 9999 t (fE ks n).toArray (fE ks n').toArray hu hp
   unfold Op.equal
   rw [show Op.maxDepth=9999+1 from rfl,hr,he,Zm hn nv]
  have ask:∀(es:List MapEntry) (i:Nat),(∀e∈es,∃n',KD.ok (.ints ks) n'/\e.key=KD.enc (.ints ks) n')->((Instr.findAsking t (.agg (fE ks n).toArray) es i).run P w=.ok none w/\∀e∈es,e.key≠.agg (fE ks n).toArray) \/
    ∃j e,(Instr.findAsking t (.agg (fE ks n).toArray) es i).run P w=.ok (some (i+j,e.val)) w/\es[j]?=some e/\e.key=.agg (fE ks n).toArray:=by
   intro es
   induction es with
   | nil=>intro i _;exact .inl ⟨by simp [Instr.findAsking],by simp⟩
   | cons e es ih =>
    intro i h
    obtain ⟨n',h1,h2⟩:=h e (by simp)
    have h2:e.key=.agg (fE ks n').toArray:=h2
    have hq:=eq n' h1
    by_cases sw:n=n'
    ·right
     refine ⟨0,e,?_,rfl,by rw [h2,sw]⟩
     have hd:decide (n=n')=true:=by simpa using sw
     simp only [Instr.findAsking,Sem.run_bind,h2,hq,hd,Result.andThen_ok]
     simp
    ·have bO:e.key≠.agg (fE ks n).toArray:=by
      rw [h2]
      intro h3
      exact sw (KD.inj (k:=.ints ks) h1 hn h3).symm
     have hd:decide (n=n')=false:=by simpa using sw
     rcases ih (i+1) (λe he=>h e (by simp [he])) with ⟨g1,g2⟩|⟨j,e',g1,g2,g3⟩
     ·left
      refine ⟨?_,?_⟩
      ·simp only [Instr.findAsking,Sem.run_bind,h2,hq,hd,Result.andThen_ok]
       simpa using g1
      ·intro e' fW
       rcases cJ.1 fW with rfl|fW
       ·exact bO
       ·exact g2 e' fW
     ·right
      refine ⟨j+1,e',?_,by simpa using g2,g3⟩
      simp only [Instr.findAsking,Sem.run_bind,h2,hq,hd,Result.andThen_ok]
      rw [show i+(j+1)=i+1+j by omega]
      simpa using g1
  show ((Instr.findKey t (.agg (fE ks n).toArray) es).run P w=.ok none w/\_)\/_
  have base:(Instr.findKey t (.agg (fE ks n).toArray) es).run P w=(Instr.findAsking t (.agg (fE ks n).toArray) es 0).run P w\/es=[]:=by
   cases es with
   | nil=>exact .inr rfl
   | cons e es =>
    left
    obtain ⟨n',h1,h2⟩:=hes e (by simp)
    have h2:e.key=.agg (fE ks n').toArray:=h2
    simp [Instr.findKey,run_underlying hu,Instr.findNow,h2,Instr.sameNow]
  rcases base with hb|rfl
  ·rcases ask es 0 hes with ⟨g1,g2⟩|⟨j,e,g1,g2,g3⟩
   ·exact .inl ⟨hb.trans g1,g2⟩
   ·exact .inr ⟨j,e,hb.trans (by simpa using g1),g2,g3⟩
  ·left
   refine ⟨?_,by simp⟩
   simp [Instr.findKey,run_underlying hu,Instr.findNow]
 stays:=λn hn w=>by
  have all:∀(ks:List IntKind) (l:List Int),((fE ks l).zip (fE ks l)).all (λ(x,y)=>Instr.sameBits 9999 x y)=true:=by
   intro ks
   induction ks with
   | nil=>intro l;cases l<;>rfl
   | cons k ks ih =>
    intro l
    cases l with
    | nil=>rfl
    | cons a l =>
     simp only [fE,List.zip_cons_cons,BM,ih l,PH]
     simp [Instr.sameBits]
  have hs:Instr.sameBits 10000 (.agg (fE ks n).toArray) (.agg (fE ks n).toArray)=true:=by
   rw [show (10000:Nat)=9999+1 from rfl,Instr.sameBits]
   simpa using all ks n
  show (Instr.keyThatStays (.agg (fE ks n).toArray) (.agg (fE ks n).toArray)).run P w=_
  unfold Instr.keyThatStays
  rw [if_pos hs]
  rfl
end
universe u
def A3 {α:Type u}:List (Nat × α)->Nat->Option α
 | [],_=>none
 | (k,x) :: r,n=>match Nat.beq k n with
  | true=>some x
  | false=>A3 r n
def xw {α:Type u} (p:Nat->α->Prop):List (Nat × α)->Prop
 | []=>True
 | (k,x) :: r=>p k x/\xw p r
theorem Lp {α:Type u} {p:Nat->α->Prop}:∀{l:List (Nat × α)},xw p l->∀f x,A3 l f=some x->p f x
 | [],_,f,x,h=>by simp [A3] at h
 | (k,y) :: r,ha,f,x,h=>by
  simp only [A3] at h
  split at h
  ·rename_i e
   simp at h;subst h
   have:=nM e
   subst this
   exact ha.1
  ·exact Lp ha.2 f x h
theorem acq (n:Nat):(NatCast.natCast n:Int)=(n:Int):=rfl
theorem bT {p:Prop} (h:p:=by ((try simp only [Go.Vc.acq] at *);omega)):p:=h
theorem oo0 {p:Prop} (h:p:=by omega):p:=h
theorem y6 {p:Prop} (h:p:=by (((repeat' first|exact dA.nil|exact Le.refl _|refine dA.cons ?_ ?_|exact Le.ic rfl|exact Le.bc rfl|exact Le.i rfl|exact Le.b rfl|exact Le.sl rfl|exact Le.mp rfl|exact Le.gq rfl|exact Le.pP rfl|refine Le.cQ rfl (λ_=>?_)|refine Le.ew rfl (λ_ _=>rfl) (λ_=>?_) ?_|refine Le.agg ?_|refine Le.cM ?_|refine Le.fn ?_ ?_|refine Le.dV ?_|exact trivial|refine And.intro ?_ ?_|refine λ_=>?_|exact Le.any _))<;>(first|(refine Le.i ?_;first|exact bD|exact jE|exact tA|exact xx|exact xy|exact qi6|exact qi7|exact hL|exact hL.symm|exact rfl)|(refine Le.sl ?_;first|exact jM|exact Di|exact F1|exact F2|exact qs5|exact qs6|exact qs7|exact rfl)|(refine cR.map ?_;first|exact tB|exact qm2|exact qm3|exact qm4|exact qm5|exact qm6|exact qm7|exact rfl)|(refine cR.dyn ?_;first|exact qd1|exact qd2|exact qd3|exact qd4|exact qd5|exact qd6|exact qd7|exact rfl)|(refine Le.ic ?_;first|exact iC|exact A4|exact NL|exact qc4|exact qc5|exact qc6|exact qc7|exact rfl)|(refine Le.bc ?_;first|exact fH|exact qv2|exact qv3|exact qv4|exact qv5|exact qv6|exact qv7|exact rfl)|(refine Le.b ?_;first|exact po|exact qb2|exact qb3|exact qb4|exact qb5|exact qb6|exact qb7|exact rfl)|(refine Le.str ?_;first|exact qt1|exact qt2|exact qt3|exact qt4|exact qt5|exact qt6|exact qt7|exact rfl)|(refine Le.mp ?_;first|exact Jn|exact qp2|exact qp3|exact qp4|exact qp5|exact qp6|exact qp7|exact rfl)|exact fq|exact rD|exact xz|exact qx4|exact qx5|exact qx6|exact qx7|exact abj 2 qu1|exact cR.iter rfl rfl (.inl rfl)))):p:=h
theorem a8 {p:Prop} (h:p:=by (((try cbv)<;>(repeat' (first|with_reducible exact trivial|with_reducible refine And.intro ?_ ?_))<;>(try first|exact cR.refl _|exact cR.dyn rfl|exact cR.map rfl|exact cR.iter rfl rfl (.inl rfl)|exact cR.iter rfl rfl (.inr rfl)|refine cR.fix ?_|refine cR.dyn ?_)<;>((repeat' first|exact dA.nil|exact Le.refl _|refine dA.cons ?_ ?_|exact Le.ic rfl|exact Le.bc rfl|exact Le.i rfl|exact Le.b rfl|exact Le.sl rfl|exact Le.mp rfl|exact Le.gq rfl|exact Le.pP rfl|refine Le.cQ rfl (λ_=>?_)|refine Le.ew rfl (λ_ _=>rfl) (λ_=>?_) ?_|refine Le.agg ?_|refine Le.cM ?_|refine Le.fn ?_ ?_|refine Le.dV ?_|exact trivial|refine And.intro ?_ ?_|refine λ_=>?_|exact Le.any _)))<;>(first|(refine Le.i ?_;first|exact bD|exact jE|exact tA|exact xx|exact xy|exact qi6|exact qi7|exact hL|exact hL.symm|exact rfl)|(refine Le.sl ?_;first|exact jM|exact Di|exact F1|exact F2|exact qs5|exact qs6|exact qs7|exact rfl)|(refine cR.map ?_;first|exact tB|exact qm2|exact qm3|exact qm4|exact qm5|exact qm6|exact qm7|exact rfl)|(refine cR.dyn ?_;first|exact qd1|exact qd2|exact qd3|exact qd4|exact qd5|exact qd6|exact qd7|exact rfl)|(refine Le.ic ?_;first|exact iC|exact A4|exact NL|exact qc4|exact qc5|exact qc6|exact qc7|exact rfl)|(refine Le.bc ?_;first|exact fH|exact qv2|exact qv3|exact qv4|exact qv5|exact qv6|exact qv7|exact rfl)|(refine Le.b ?_;first|exact po|exact qb2|exact qb3|exact qb4|exact qb5|exact qb6|exact qb7|exact rfl)|(refine Le.str ?_;first|exact qt1|exact qt2|exact qt3|exact qt4|exact qt5|exact qt6|exact qt7|exact rfl)|(refine Le.mp ?_;first|exact Jn|exact qp2|exact qp3|exact qp4|exact qp5|exact qp6|exact qp7|exact rfl)|exact fq|exact rD|exact xz|exact qx4|exact qx5|exact qx6|exact qx7|exact abj 2 qu1|exact cR.iter rfl rfl (.inl rfl)))):p:=h
theorem cd {p:Prop} (h:p:=by (((try cbv)<;>((repeat' first|exact dA.nil|exact Le.refl _|refine dA.cons ?_ ?_|exact Le.ic rfl|exact Le.bc rfl|exact Le.i rfl|exact Le.b rfl|exact Le.sl rfl|exact Le.mp rfl|exact Le.gq rfl|exact Le.pP rfl|refine Le.cQ rfl (λ_=>?_)|refine Le.ew rfl (λ_ _=>rfl) (λ_=>?_) ?_|refine Le.agg ?_|refine Le.cM ?_|refine Le.fn ?_ ?_|refine Le.dV ?_|exact trivial|refine And.intro ?_ ?_|refine λ_=>?_|exact Le.any _)))<;>(first|(refine Le.i ?_;first|exact bD|exact jE|exact tA|exact xx|exact xy|exact qi6|exact qi7|exact hL|exact hL.symm|exact rfl)|(refine Le.sl ?_;first|exact jM|exact Di|exact F1|exact F2|exact qs5|exact qs6|exact qs7|exact rfl)|(refine cR.map ?_;first|exact tB|exact qm2|exact qm3|exact qm4|exact qm5|exact qm6|exact qm7|exact rfl)|(refine cR.dyn ?_;first|exact qd1|exact qd2|exact qd3|exact qd4|exact qd5|exact qd6|exact qd7|exact rfl)|(refine Le.ic ?_;first|exact iC|exact A4|exact NL|exact qc4|exact qc5|exact qc6|exact qc7|exact rfl)|(refine Le.bc ?_;first|exact fH|exact qv2|exact qv3|exact qv4|exact qv5|exact qv6|exact qv7|exact rfl)|(refine Le.b ?_;first|exact po|exact qb2|exact qb3|exact qb4|exact qb5|exact qb6|exact qb7|exact rfl)|(refine Le.str ?_;first|exact qt1|exact qt2|exact qt3|exact qt4|exact qt5|exact qt6|exact qt7|exact rfl)|(refine Le.mp ?_;first|exact Jn|exact qp2|exact qp3|exact qp4|exact qp5|exact qp6|exact qp7|exact rfl)|exact fq|exact rD|exact xz|exact qx4|exact qx5|exact qx6|exact qx7|exact abj 2 qu1|exact cR.iter rfl rfl (.inl rfl)))):p:=h
theorem hS:(∀{a b:Int},fU a b=decide (a<=b))/\(∀{a b:Int},dv a b=decide (a < b))/\(∀{a b:Int},fk a b=(a == b)) /\
  (∀{n:Int},-9223372036854775808<=n->n<=9223372036854775807->IntKind.i64.wrap n=n)/\(∀{a b:Int},((a == b)=true)=(a=b))/\(∀{p:Prop} [Decidable p],(decide p=true)=p) /\
  (∀{p:Prop} [Decidable p],(decide p=false)=¬p)/\(∀{a:Bool},((!a)=true)=(a=false))/\(∀{a b:Int},((a == b)=false)=(a≠b))/\(∀{α:Type} {a b:α},(a≠b)=¬(a=b)) /\
  (∀{a b:Bool},((a&&b)=true)=(a=true/\b=true))/\(∀{a b:Bool},((a||b)=true)=(a=true\/b=true))/\(∀{α:Type} {a b:α},(if True then a else b)=a)/\(∀{α:Type} {a b:α},(if False then a else b)=b) /\
  (∀{a:Bool},(¬(a=true))=(a=false))/\((false=true)=False)/\((true=false)=False)/\(∀{a:Bool},(¬(a=false))=(a=true)):=by
 refine ⟨rfl,rfl,rfl,cW,?_,?_,?_,?_,?_,rfl,?_,?_,?_,?_,?_,?_,?_,?_⟩<;>intros<;>simp
theorem ltT {a b:Nat} (h:dv a b=true):a < b:=by simpa [dv] using h
theorem acr {a b:Int} (h:dv a b=true):a < b:=by simpa [dv] using h
theorem ltF {a b:Nat} (h:dv a b=false):b<=a:=by simpa [dv] using h
theorem Ss {a b:Int} (h:dv a b=false):b<=a:=by simpa [dv] using h
theorem Iz {a b:Int} (h:fU a b=true):a<=b:=by simpa [fU] using h
theorem Fo {a b:Int} (h:fU a b=false):b < a:=by simpa [fU] using h
theorem eqT {a b:Int} (h:fk a b=true):a=b:=by simpa [fk] using h
theorem eqF {a b:Int} (h:fk a b=false):¬a=b:=by simpa [fk] using h
theorem neT {a b:Int} (h:(!fk a b)=true):¬a=b:=by simpa [fk] using h
theorem neF {a b:Int} (h:(!fk a b)=false):a=b:=by simpa [fk] using h
theorem aL {p:Prop} (g:p:=by first|exact acr h.out|exact ltT h.out|exact eqF h.out|exact eqT h.out|exact Ss h.out|exact KY.2 (Ss h.out)|exact Iz h.out|exact Fo h.out|exact Ej.2 (Fo h.out)|exact neT h.out|exact neF h.out|(have h':=h.out;simp only [hS] at h';simp only [Go.Vc.acq] at *;omega)|(have h':=h.out;simpa [dv,fU,fk] using h')):p:=g
theorem df0 {x:Unit->Bool} {A B:Prop} (b:B) (h:¬x ()=true:=by simp [fk,Expr.op]):(yN x->A)/\(yO x->B):=⟨λt=>absurd t.out h,λ_=>b⟩
theorem dt0 {x:Unit->Bool} {A B:Prop} (a:A) (h:¬x ()=false:=by simp [fk,Expr.op]):(yN x->A)/\(yO x->B):=⟨λ_=>a,λt=>absurd t.out h⟩
@[reducible] def NM (T:TypeId->Option TI) (E:TypeId->Option iA) (fs:List (Nat × Func)) (sp:List (Nat × Spec)) (io lp cut row emp:List Nat):Ctx :=
 { tt:=T,el:=E,sp:=λf=>A3 sp (id f),inl:=λf=>A3 fs (id f),io:=λf=>fS f io,lp:=λf=>fS f lp,cut:=λf=>fS f cut,row:=λt=>fS t row,emp:=λt=>fS t emp }
def CB (PP:Unit->Program) (X:Ctx):Prop:=X.Ok (PP ())/\mZ X
theorem RD {PP:Unit->Program} {T:TypeId->Option TI} {E:TypeId->Option iA} {fs:List (Nat × Func)} {sp:List (Nat × Spec)} {io lp cut row emp:List Nat} (ht:∀t i,T t=some i->my (PP ()) t i)
 (he:∀X:Ctx,X.tt=T->∀t e,E t=some e->ET (PP ()) X t e) (hm:(PP ()).follows .mixedOrders=true) (hf:xw (λf fn=>lD (PP ()) f fn/\nO fn=true) fs) (hs:xw (λf S=>dt (PP ()) f S) sp) :
 CB PP (NM T E fs sp io lp cut row emp):=⟨⟨ht,he _ rfl,Lp hs,λf fn h=>(Lp hf f fn h).1,hm⟩,λf fn h=>(Lp hf f fn h).2⟩
theorem fo {P : Program} {f : FuncId} {fn : Func} (h : P.funcs[f]? = some fn) (hb : (fn.body.isSome && !(fn.name == "runtime.NumGoroutine")) = true := by kernel_rfl) (hc : nO fn = true := by kernel_rfl) : lD P f fn /\ nO fn = true := ⟨QE h hb, hc⟩
section
variable {PP:Unit->Program} {X:Ctx} {fid:FuncId} {fn:Func}
theorem e6 (B:CB PP X) (F:lD (PP ()) fid fn/\nO fn=true) {S:Spec} (cv:∀a,cN (S.args a)) (iy:∀a,LF (S.res a)) (h0:∀a,S.pre a->ack PP X 2 fn (S.args a) (S.res a)) (sx:S.fr=false:=by rfl):dt (PP ()) fid S :=
 ahn B.1 B.2 F.1 F.2 cv iy h0 sx
theorem Z2 (B:CB PP X) (F:lD (PP ()) fid fn/\nO fn=true) {S:Spec} (cv:∀a,cN (S.args a)) (iy:∀a,LF (S.res a)) (h0:∀a,S.pre a->abh PP X 2 fn (S.args a) (S.res a)):dt (PP ()) fid S :=
 ag2 B.1 B.2 F.1 F.2 cv iy h0
theorem qZ (B:CB PP X) (F:lD (PP ()) fid fn/\nO fn=true) {S:jT} (cv:∀a,cN (S.args a)) (iy:∀a y,LF (S.res a y)) (h0:∀a,S.pre a->abg PP X 2 fn S a):kQ PP fid S :=
 ag1 B.1 B.2 F.1 F.2 cv iy h0
theorem sA (B:CB PP X) (F:lD (PP ()) fid fn/\nO fn=true) {Sp:o6} (hw:∀a y,NJ Sp.mv (Sp.io a) (Sp.l7 a y)=true) (hm:∀a,CT Sp.mv 0 (Sp.io a)=true/\FZ (Sp.io a).length Sp.mv=true) (TX:Sp.mv.Nodup)
 (h0:∀a,Sp.pre a->acp PP X 2 fn Sp a):nh PP fid Sp:=ai0 B.1 B.2 F.1 F.2 hw hm TX h0
variable {S:List SV} {r:Bool} {s:St} {body:Code} {k:Exit->St->Prop}
theorem Sat.jN (B:CB PP X) (h:wo S r PP X 2 body s k) (hc:codeOk body=true:=by kernel_rfl):Sat S r PP body s k:=Sat.go B.1 B.2 hc h
theorem Sat.aw7 (B:CB PP X) (n:Nat) (h:QC S r PP X 2 body n s k) (hc:codeOk body=true:=by kernel_rfl):Sat S r PP (.loop body) s k:=Sat.rounds B.1 B.2 hc n h
theorem Sat.ax5 (B:CB PP X) {α:Type} (n:Nat) (own:List (Place × Nat)) (I:α->St) (J:α->Prop) (μ:α->Nat) (x0:α) (h0:qG (s.cut n).t (I x0).t) (rA:ny (s.cut n).b (I x0).b) (hJ:J x0)
 (hr:∀x,J x->wo S r PP X 2 body (I x) (LP S n own I J μ x k)) (hc:codeOk body=true:=by kernel_rfl) (hn:mB (Nat.ble n) S=false:=by rfl):Sat S r PP (.loop body) s k:=Sat.loop B.1 B.2 hc n own I J μ x0 h0 rA hJ hr hn
theorem Sat.cU (B:CB PP X) {α:Type} (n m:Nat) (own:List (Place × Nat)) (ut:α->List (Nat × SV)) (ub:α->List (Nat × Slot)) (J:α->Prop) (μ:α->Nat) (x0:α)
  (h0:qG (s.cut n).t (s.patch n m (ut x0) (ub x0)).t) (rA:ny (s.cut n).b (s.patch n m (ut x0) (ub x0)).b) (hJ:J x0)
  (hr:∀x,J x->wo S r PP X 2 body (s.patch n m (ut x) (ub x)) (LP S n own (λx=>s.patch n m (ut x) (ub x)) J μ x k)) (hc:codeOk body=true:=by kernel_rfl) (hn:mB (Nat.ble n) S=false:=by rfl):Sat S r PP (.loop body) s k :=
 Sat.anj B.1 B.2 hc n m own ut ub J μ x0 h0 rA hJ hr hn
end
def jT.fun (S:jT):Spec:={ α:=S.α,args:=S.args,pre:=S.pre,res:=λa=>.opt (S.post a) (S.res a) }
theorem kQ.fun {P:Unit->Program} {f:FuncId} {S:jT} {fn:Func} (I:kQ P f S) (F:lD (P ()) f fn):dt (P ()) f S.fun where
 fn:=⟨fn,F⟩
 lf:=I.lf
 lr:=λa=>by show LF (.opt (S.post a) (S.res a));simp only [LF];exact λy=>I.lr a y
 fresh:=λh=>by cases h
 run:=λa ej H F' w vals hH hF jv=>by
  refine (I.run a ej H F' w vals hH hF jv).mono ?_
  rintro e w' ⟨y,v,H',h1,h2,h3,h4,h5,h6,h7,h8⟩
  refine ⟨v,H',h2,h3,h4,h5,h6,?_,h8⟩
  show rel _ _ _ (.opt (S.post a) (S.res a)) v
  simp only [rel]
  exact ⟨⟨y,h1,h7⟩,λt=>I.lr a t⟩
theorem kQ.opt {P:Unit->Program} {f:FuncId} {S T:jT} (I:kQ P f S) {U:Type} (p:T.α->U->Prop) (x:U->SV) (r:T.α->List SV) (c:T.α->U->S.α) (cv:∀u,LF (x u)) (hr:∀a,cN (r a))
  (hT:∀a,T.args a=.opt (p a) x :: r a) (hS:∀a u,S.args (c a u)=x u :: r a) (hp:∀a u,T.pre a->p a u->S.pre (c a u)) (hb:T.β=S.β) (hq:∀a u y,p a u->T.pre a->S.post (c a u) y->T.post a (hb ▸ y)/\S.res (c a u) y=T.res a (hb ▸ y)) (Dj:∀a y,LF (T.res a y)):kQ P f T where
 lf:=λa=>by
  rw [hT]
  exact ⟨by simp only [LF];exact cv,hr a⟩
 lr:=Dj
 run:=λa ej H F' w vals hH hF jv=>by
  rw [hT] at jv
  simp only [aP,rel] at jv
  obtain ⟨v,vs,rfl,⟨⟨u,hu,hv⟩,_⟩,rr⟩:=jv
  refine (I.run (c a u) (hp a u ej hu) H F' w (v :: vs) hH hF (by rw [hS];simp only [aP];exact ⟨v,vs,rfl,hv,rr⟩)).mono ?_
  rintro e w' ⟨y,v',H',h1,h2,h3,h4,h5,h6,h7,h8⟩
  obtain ⟨q1,q2⟩:=hq a u y hu ej h1
  rw [q2] at h7
  exact ⟨_,v',H',q1,h2,h3,h4,h5,h6,h7,h8⟩
section
variable {H:Type} {enc:TypeId × Value->H} {P:Program} {W W':World}
theorem VI (hl:laidOutB P=true) (hb:Below W.heap.size W W') {sp:Nat->Bool}:∀{ts:List TypeId} {vs:List Value} {ds:List (DataW H)} {ps:List MemPlace},
  (∀t∈ts,P.readableRec t=true/\t < P.types.size)->DataW.TrodAll enc P W 0 (λ_=>true) true ts vs ds ps->(∀p∈ps,p.block < W.heap.size)->(∀p∈ps,sp p.block=true) ->
  DataW.TrodAll enc P W' 0 sp true ts vs ds ps
 | [],[],[],_,_,h,_,_=>h
 | t :: ts,v :: vs,d :: ds,ps,ht,⟨p,q,h1,h2,e⟩,aO,hs=>by
  subst e
  refine ⟨p,q,?_,?_,rfl⟩
  ·exact WideElems.Trod_stays hl (ht t (by simp)).1 (ht t (by simp)).2 h1 (λx hx=>hb.same (aO x (by simp [hx]))) (λx hx=>hs x (by simp [hx]))
  ·exact VI hl hb (λu hu=>ht u (by simp [hu])) h2 (λx hx=>aO x (by simp [hx])) (λx hx=>hs x (by simp [hx]))
theorem ai1 {f:Func} {s:ChangeSpec} {fresh handsOn again:Bool} {args:Array Value} {ds gs:List (DataW H)} {before:List MemPlace}
  (hl:laidOutB P=true) (FQ:∀t∈f.params.toList,P.readableRec t=true/\t < P.types.size) {tb:TypeId} (hr:f.resultTypes=#[tb]) (F3:P.underlying tb=some .bool)
  (yZ:s.vars=[]) (iy:(s.fn H (ds++gs)).results=[.lit (.bool true)]) (mY:(s.fn H (ds++gs)).args=ds) (rr:(s.fn H (ds++gs)).vars=[])
  (hW:DataW.Whole enc P f.params.toList s.vars false W args.toList ds gs before) (hb:Below W.heap.size W W') :
  s.post enc P f false fresh handsOn again W args (.bool true) W':=by
 obtain ⟨p,q,hA,hV,e,NN,fM⟩:=hW
 have hq:q=[]:=by
  rw [yZ] at hV
  cases gs with
  | nil=>exact hV
  | cons g gs=>exact hV.elim
 subst hq
 have hp:before=p:=by rw [e];simp
 subst hp
 have aO:=DataW.Whole.lt ⟨before,[],hA,hV,by simp,NN,fM⟩
 have hR:∀(b:Nat) (sp:Nat->Bool) (hd:Bool),DataW.TrodAll enc P W' b sp hd f.resultTypes.toList ((Value.bool true).resultList f.resultTypes.size) (s.fn H (ds++gs)).results []:=by
  intro b sp hd
  rw [hr,iy]
  exact trodAll_cons_mk (shut_bool F3 _) trodAll_mk0
 have hAr:∀sp:Nat->Bool,(∀p∈before,sp p.block=true)->DataW.TrodAll enc P W' 0 sp true f.params.toList args.toList (s.fn H (ds++gs)).args before:=by
  intro sp hs
  rw [mY]
  exact VI hl hb FQ hA aO hs
 have hVr:∀sp:Nat->Bool,DataW.TrodVars enc P W' sp s.vars (s.fn H (ds++gs)).vars []:=by
  intro sp
  rw [yZ,rr]
  rfl
 refine ⟨ds,gs,before,[],before,[],⟨before,[],hA,hV,by simp,NN,fM⟩,hR _ _ _,hAr _ (λp hp=>by simpa using aO p hp),hVr _,hb.frame _,λ_=>?_⟩
 refine ⟨?_,_,_,([]++before)++[],⟨[]++before,[],trodAll_append (hAr _ (λ_ _=>rfl)) (hR _ _ _),hVr _,rfl,?_,?_⟩,?_⟩
 ·exact ok_one hr rfl (okWide_bool_mk F3 _)
 ·intro b off hp
  have hp:MemPlace.cell b off∈before:=by simpa using hp
  rw [hb.frozen (aO _ hp)]
  exact NN b off hp
 ·intro ha;cases ha
 ·intro p hp _
  simpa using hp
theorem agw {w w':World} (h:(iT w).iZ w') (h1:w'.os=w.os) (h2:w'.tape=w.tape) (h3:w'.output=w.output):Below w.heap.size w w':=by
 have g:=Kj h h1 h2 h3
 exact ⟨g.os,g.tape,g.output,g.size,λk hk=>g.block k hk (by simp)⟩
theorem ai2 {S:Spec} {fid:FuncId} (h:dt P fid S) (a:S.α) (ha:S.pre a) (iy:S.res a=.bc true) {w:World} {vals:List Value} (jv:dL (iT w) (S.args a) vals) :
  Calls P fid vals.toArray w λe w'=>e=.returned (.bool true)/\Below w.heap.size w w':=by
 refine (h.run a ha (iT w) (iT w) w vals (zx w) (zx w) jv).mono ?_
 rintro e w' ⟨v,H',rfl,_,_,hF,_,hv,h1,h2,h3⟩
 rw [iy] at hv
 simp only [rel] at hv
 subst hv
 exact ⟨rfl,agw hF h1 h2 h3⟩
end
theorem MU {a b:Nat}:(Nat.beq a b=true)=(a=b):=propext ⟨nM,λh=>h ▸ PI a⟩
inductive Ty where
 | int (k:IntKind)
 | bool
 | str
 | sl (e:Ty)
 | unit
 | pair (a b:Ty)
abbrev Ty.p8:Ty->Type
 | .int _=>Int
 | .bool=>Bool
 | .str=>ByteArray
 | .sl e=>List e.p8
 | .unit=>Unit
 | .pair a b=>a.p8 × b.p8
def Ty.size:Ty->Nat
 | .unit=>0
 | .pair a b=>a.size+b.size
 | _=>1
def Ty.cells:(T:Ty)->T.p8->List SV
 | .int k,n=>[.i k λ_=>n]
 | .bool,b=>[.b λ_=>b]
 | .str,s=>[.str λ_=>s]
 | .sl e,xs=>[.sl e.size e.cells λ_=>xs]
 | .unit,_=>[]
 | .pair a b,x=>a.cells x.1++b.cells x.2
def Ty.wf:(T:Ty)->T.p8->Prop
 | .int k,n=>k.min<=n/\n<=k.max
 | .bool,_=>True
 | .str,s=>s.size<=maxLen
 | .sl e,xs=>xs.length<=maxLen/\∀x∈xs,e.wf x
 | .unit,_=>True
 | .pair a b,x=>a.wf x.1/\b.wf x.2
def Ty.arg:(T:Ty)->T.p8->SV
 | .int k,n=>.i k λ_=>n
 | .bool,b=>.b λ_=>b
 | .str,s=>.str λ_=>s
 | .sl e,xs=>.sl e.size e.cells λ_=>xs
 | .unit,_=>.agg []
 | .pair a b,x=>.agg (a.cells x.1++b.cells x.2)
theorem Ty.lf:∀(T:Ty) (x:T.p8),cN (T.cells x)
 | .int k,n=>⟨trivial,trivial⟩
 | .bool,b=>⟨trivial,trivial⟩
 | .str,s=>⟨trivial,trivial⟩
 | .sl e,xs=>⟨λx=>e.lf x,trivial⟩
 | .unit,_=>trivial
 | .pair a b,x=>OZ (a.lf x.1) (b.lf x.2)
def ra (T:Ty):Nat->Ty
 | 0=>.unit
 | n+1=>.pair T (ra T n)
def BU (r:TypeId->Option Ty) (c:TypeId->Nat):Nat->List Field->Option Ty
 | _,[]=>some .unit
 | o,f :: fs =>
  match r f.type with
  | some T=>match Nat.beq f.offset o&&Nat.beq (c f.type) T.size with
   | true=>match BU r c (o+T.size) fs with
    | some U=>some (.pair T U)
    | none=>none
   | false=>none
  | none=>none
def vR (P:Program):Nat->TypeId->Option Ty
 | 0,_=>none
 | n+1,t=>match P.underlying t with
  | some (.int k)=>some (.int k)
  | some .bool=>some .bool
  | some .string=>some .str
  | some (.slice e)=>match vR P n e with
   | some T=>match Nat.beq (P.cellsOf e) T.size&&Nat.blt 0 T.size with
    | true=>some (.sl T)
    | false=>none
   | none=>none
  | some (.struct fs)=>match BU (vR P n) P.cellsOf 0 fs.toList with
   | some T=>match Nat.beq (P.cellsOf t) T.size with
    | true=>some T
    | false=>none
   | none=>none
  | some (.array m e)=>match vR P n e with
   | some T=>match Nat.beq (P.cellsOf e) T.size&&Nat.beq (P.cellsOf t) (m*T.size) with
    | true=>some (ra T m)
    | false=>none
   | none=>none
  | _=>none
theorem VT {α:Type} {p:Nat->α->Prop}:∀(n:Nat),(∀i,i < n->∃y,p i y)->∃ys:List α,ys.length=n/\∀i y,ys[i]?=some y->p i y
 | 0,_=>⟨[],rfl,λi y h=>by simp at h⟩
 | n+1,h=>by
  obtain ⟨ys,h1,h2⟩:=VT n λi hi=>h i (by omega)
  obtain ⟨y,hy⟩:=h n (by omega)
  refine ⟨ys++[y],by simp [h1],λi z hz=>?_⟩
  rw [wN] at hz
  split at hz
  ·exact h2 i z hz
  ·rename_i hi
   have:i=n:=by
    have:=(a7.1 hz).1
    simp at this;omega
   subst this
   simp [h1] at hz
   subst hz;exact hy
section
variable {H:Type} {enc:TypeId × Value->H} {P:Program} {W:World} {base:Nat} {sp:Nat->Bool} {held:Bool}
def RE (enc:TypeId × Value->H) (P:Program) (W:World) (base:Nat) (sp:Nat->Bool) (held:Bool) (m:Nat) (t:TypeId) (T:Ty):Prop :=
 ∀cs x,DataW.trod enc P W base sp held m t cs=some x->∃y:T.p8,T.wf y/\cs.length=T.size/\dL (iT W) (T.cells y) cs
theorem VU {n m:Nat} (ih:∀t T,vR P n t=some T->RE enc P W base sp held m t T):∀(fs:List Field) (o:Nat) (T:Ty) (cs:List Value) (xs:List (DataW H × List MemPlace)),
  BU (vR P n) P.cellsOf o fs=some T->fs.mapM (λf=>DataW.trod enc P W base sp held m f.type ((cs.drop f.offset).take (P.cellsOf f.type)))=some xs->cs.length=o+T.size ->
  ∃y:T.p8,T.wf y/\dL (iT W) (T.cells y) (cs.drop o)
 | [],o,T,cs,xs,h,_,hl=>by
  simp [BU] at h;subst h
  refine ⟨(),trivial,?_⟩
  have:cs.drop o=[]:=by simp;simp [Ty.size] at hl;omega
  rw [this];simp [Ty.cells,aP]
 | f :: fs,o,T,cs,xs,h,hm,hl=>by
  unfold BU at h
  split at h<;>try (cases h;done)
  rename_i T1 h1
  split at h<;>try (cases h;done)
  rename_i h2
  split at h<;>try (cases h;done)
  rename_i U h3
  simp at h;subst h
  simp only [cG,MU] at h2
  rw [G8] at hm
  simp only [bind,Ph,pure,rR] at hm
  obtain ⟨a,ha,as,has,rfl⟩:=hm
  rw [h2.1,h2.2] at ha
  obtain ⟨y,kD,nq,T0⟩:=ih _ _ h1 _ _ ha
  simp only [Ty.size] at hl
  obtain ⟨z,AT,su⟩:=VU ih fs (o+T1.size) U cs as h3 has (by omega)
  refine ⟨(y,z),⟨kD,AT⟩,?_⟩
  have e:cs.drop o=(cs.drop o).take T1.size++cs.drop (o+T1.size):=by rw [<-List.drop_drop,List.take_append_drop]
  rw [e]
  exact iS T0 su
theorem Xn {m c:Nat} {e:TypeId} {T:Ty} (ih:RE enc P W base sp held m e T) (hc:c=T.size):∀(k o:Nat) (cs:List Value) (xs:List (DataW H × List MemPlace)),
  (List.range' o k).mapM (λi=>DataW.trod enc P W base sp held m e ((cs.drop (i*c)).take c))=some xs->cs.length=(o+k)*c ->
  ∃y:(ra T k).p8,(ra T k).wf y/\dL (iT W) ((ra T k).cells y) (cs.drop (o*c))
 | 0,o,cs,xs,_,hl=>by
  refine ⟨(),trivial,?_⟩
  have:cs.drop (o*c)=[]:=by simp;rw [hl];simp
  rw [this];simp [ra,Ty.cells,aP]
 | k+1,o,cs,xs,hm,hl=>by
  rw [List.range'_succ,G8] at hm
  simp only [bind,Ph,pure,rR] at hm
  obtain ⟨a,ha,as,has,rfl⟩:=hm
  obtain ⟨y,kD,nq,T0⟩:=ih _ _ ha
  obtain ⟨z,AT,su⟩:=Xn ih hc k (o+1) cs as has (by rw [hl];congr 1;omega)
  refine ⟨(y,z),⟨kD,AT⟩,?_⟩
  have e:cs.drop (o*c)=(cs.drop (o*c)).take c++cs.drop ((o+1)*c):=by
   rw [show (o+1)*c=o*c+c by rw [Nat.add_mul];omega,<-List.drop_drop,List.take_append_drop]
  rw [e]
  exact iS T0 su
theorem Ty.Yr (T:Ty):∀k,(ra T k).size=k*T.size
 | 0=>by simp [ra,Ty.size]
 | k+1=>by simp only [ra,Ty.size];rw [Ty.Yr T k,Nat.add_mul];omega
theorem opens:∀(n:Nat) (t:TypeId) (T:Ty),vR P n t=some T->∀m,RE enc P W base sp held m t T
 | 0,t,T,h,_=>by cases h
 | n+1,t,T,h,0=>by
  intro cs x hx
  simp [DataW.trod] at hx
 | n+1,t,T,h,m+1=>by
  intro cs x hx
  unfold vR at h
  split at h
  ·rename_i k hk
   simp at h;subst h
   obtain ⟨z,rfl,_,hw⟩:=DataW.trod_int hk hx
   exact ⟨z,by simpa [Ty.wf,Lit.wf] using hw,rfl,by simp [Ty.cells,aP,rel]⟩
  ·rename_i hk
   simp at h;subst h
   obtain ⟨z,rfl,_⟩:=DataW.trod_bool hk hx
   exact ⟨z,trivial,rfl,by simp [Ty.cells,aP,rel]⟩
  ·rename_i hk
   simp at h;subst h
   obtain ⟨z,rfl,_,hw⟩:=DataW.trod_string hk hx
   exact ⟨z,hw,rfl,by simp [Ty.cells,aP,rel]⟩
  ·rename_i e hk
   split at h<;>try (cases h;done)
   rename_i E hE
   split at h<;>try (cases h;done)
   rename_i hc
   simp at h;subst h
   simp only [cG,MU,Ei] at hc
   obtain ⟨hc,r9⟩:=hc
   have lf:∀x:E.p8,cN (E.cells x):=E.lf
   rcases DataW.trod_slice hk hx with ⟨rfl,_⟩|⟨a,len,cap,elems,rest,k,_,rfl,_,hb,hle,hm,hlen,T2,_⟩
   ·refine ⟨[],⟨cg _,by simp⟩,rfl,?_⟩
    simp only [Ty.cells,aP,rel]
    exact ⟨_,[],rfl,⟨⟨none,0,rfl,by simp,.inl trivial⟩,lf⟩,rfl⟩
   ·obtain ⟨ys,kD,nq⟩:=VT (p:=λi (y:E.p8)=>E.wf y/\∃us,W.cells? base (a.add (i*E.size)) E.size=some us/\us.length=E.size/\dL (iT W) (E.cells y) us) len (λi hi=>by
     have h1:=T2 i hi
     rw [ea (by omega),hc] at h1
     rw [Ph] at h1
     obtain ⟨us,h2,h3⟩:=h1
     obtain ⟨y,h4,h5,h6⟩:=opens n e E hE k us _ h3
     exact ⟨y,h4,us,h2,h5,h6⟩)
    refine ⟨ys,⟨by omega,λx hx=>?_⟩,rfl,?_⟩
    ·obtain ⟨i,hi⟩:=lN hx
     exact (nq i x hi).1
    ·simp only [Ty.cells,aP,rel]
     refine ⟨_,[],rfl,⟨⟨some a,cap,by rw [kD],by rw [kD];exact hle,?_⟩,lf⟩,rfl⟩
     by_cases hz:ys=[]
     ·exact .inl hz
     right
     have h0:0 < ys.length:=by cases ys with|nil=>exact absurd rfl hz|cons=>simp
     have fV:a.spot=none:=by
      obtain ⟨_,us,h1,h2,_⟩:=nq 0 _ (ea h0)
      have h3:=(World.cells?_some h1).2.2 0 r9
      rw [Nat.zero_mul] at h3
      have nr:W.cell? ((a.add 0).add 0)=some us[0]:=by rw [h3,ea (by omega)]
      unfold World.cell? at nr
      split at nr
      ·cases a with
       | mk b o s=>cases s<;>simp_all [Addr.add]
      ·cases nr
     refine ⟨a,rfl,fV,λj x hx=>?_⟩
     obtain ⟨_,us,h1,h2,h3⟩:=nq j x hx
     refine ⟨us,h2,h3,λi u hu=>?_⟩
     have hi:i < E.size:=by rw [<-h2];exact (a7.1 hu).1
     have h4:=(World.cells?_some h1).2.2 i hi
     rw [hu,pB _ fV,qW] at h4
     exact agQ h4
  ·rename_i fs hk
   split at h<;>try (cases h;done)
   rename_i U hU
   split at h<;>try (cases h;done)
   rename_i hc
   simp at h;subst h
   simp only [MU] at hc
   rw [DataW.trod_step] at hx
   unfold DataW.trodStep at hx
   simp only [hk] at hx
   split at hx<;>try (cases hx;done)
   rename_i hl
   simp only [GU] at hx
   obtain ⟨xs,hx,_⟩:=hx
   obtain ⟨y,h1,h2⟩:=VU (λt T hT=>opens n t T hT m) fs.toList 0 U cs xs hU hx (by omega)
   exact ⟨y,h1,by omega,by simpa using h2⟩
  ·rename_i k e hk
   split at h<;>try (cases h;done)
   rename_i E hE
   split at h<;>try (cases h;done)
   rename_i hc
   simp at h;subst h
   simp only [cG,MU] at hc
   rw [DataW.trod_step] at hx
   unfold DataW.trodStep at hx
   simp only [hk] at hx
   split at hx<;>try (cases hx;done)
   rename_i hl
   simp only [GU] at hx
   obtain ⟨xs,hx,_⟩:=hx
   rw [hc.1,List.range_eq_range'] at hx
   obtain ⟨y,h1,h2⟩:=Xn (opens n e E hE m) rfl k 0 cs xs hx (by rw [hl,hc.2];simp)
   exact ⟨y,h1,by rw [Ty.Yr];omega,by simpa using h2⟩
  ·cases h
theorem Zn {n:Nat} {t:TypeId} {T:Ty} (hT:vR P n t=some T) {r:Reach} {b0:Nat} {v:Value} {d:DataW H} {ps:List MemPlace} (uG:Value.okWide P W r b0 t v) (hd:DataW.Trod enc P W base sp held t v d ps) :
  ∃y:T.p8,T.wf y/\dL (iT W) [T.arg y] [v]:=by
 obtain ⟨fuel,hf⟩:=hd
 obtain ⟨y,h1,h2,h3⟩:=opens n t T hT fuel _ _ hf
 refine ⟨y,h1,?_⟩
 have agg:∀cs:Array Value,v=.agg cs->dL (iT W) [SV.agg (T.cells y)] [v]:=by
  rintro cs rfl
  simp only [aP,rel]
  exact ⟨_,[],rfl,⟨cs.toList,rfl,h3⟩,rfl⟩
 have one:(∀cs:Array Value,v≠.agg cs)->dL (iT W) (T.cells y) [v]:=by
  intro hn
  have:v.cells.toList=[v]:=by
   cases v<;>try rfl
   rename_i cs;exact absurd rfl (hn cs)
  rw [this] at h3;exact h3
 cases n with
 | zero=>cases hT
 | succ n =>
  unfold vR at hT
  split at hT
  ·rename_i k hk
   simp at hT;subst hT
   obtain ⟨z,rfl⟩:=okWide_int hk uG
   exact one (by simp)
  ·rename_i hk
   simp at hT;subst hT
   obtain ⟨z,rfl⟩:=okWide_bool hk uG
   exact one (by simp)
  ·rename_i hk
   simp at hT;subst hT
   obtain ⟨z,rfl⟩:=okWide_string hk uG
   exact one (by simp)
  ·rename_i e hk
   split at hT<;>try (cases hT;done)
   split at hT<;>try (cases hT;done)
   simp at hT;subst hT
   obtain ⟨a,len,cap,rfl⟩:=okWide_slice hk uG
   exact one (by simp)
  ·rename_i fs hk
   have Su:∃cs,v=.agg cs:=by
    simp only [Value.okWide,hk] at uG
    obtain ⟨cs,h,_⟩:=uG
    exact ⟨cs,h⟩
   obtain ⟨cs,gk⟩:=Su
   split at hT<;>try (cases hT;done)
   rename_i U hU
   split at hT<;>try (cases hT;done)
   simp at hT;subst hT
   have:U.arg y=.agg (U.cells y):=by
    generalize fs.toList=l at hU
    cases l with
    | nil=>simp [BU] at hU;subst hU;rfl
    | cons f r =>
     unfold BU at hU
     split at hU<;>try (cases hU;done)
     split at hU<;>try (cases hU;done)
     split at hU<;>try (cases hU;done)
     simp at hU;subst hU;rfl
   rw [this]
   exact agg cs gk
  ·rename_i k e hk
   have Su:∃cs,v=.agg cs:=by
    simp only [Value.okWide,hk] at uG
    obtain ⟨cs,h,_⟩:=uG
    exact ⟨cs,h⟩
   obtain ⟨cs,gk⟩:=Su
   split at hT<;>try (cases hT;done)
   split at hT<;>try (cases hT;done)
   simp at hT;subst hT
   rename_i E _ _ _
   have:(ra E k).arg y=.agg ((ra E k).cells y):=by
    cases k<;>rfl
   rw [this]
   exact agg cs gk
  ·cases hT
end
end Go.Vc
