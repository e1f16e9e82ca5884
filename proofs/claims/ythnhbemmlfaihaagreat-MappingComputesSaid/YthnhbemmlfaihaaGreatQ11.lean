import Derived.Test.YthnhbemmlfaihaaGreatQ9
import Derived.Test.YthnhbemmlfaihaaGreatQ10
import Derived.KernelRfl
import Derived.Carry
import Derived.ProofKit
import Derived.OpenShut
set_option linter.unusedVariables false
set_option linter.unusedSimpArgs false
set_option maxRecDepth 10000
set_option maxHeartbeats 64000000
namespace Go.Vc
open Go Go.ChangeShapes Go.WideShapes Go.ChangeAt Go.RowKit
def adD (P:Program) (t:TypeId):TD->Bool
 | .int k=>match P.underlying t with|some (.int k')=>k == k'|_=>false
 | .bool=>match P.underlying t with|some .bool=>true|_=>false
 | .str=>match P.underlying t with|some .string=>true|_=>false
 | .sl e=>match P.underlying t with|some (.slice e')=>e == e'|_=>false
 | .ptr e=>match P.underlying t with|some (.pointer e')=>e == e'|_=>false
 | .st gs=>match P.underlying t with
  | some (.struct fs)=>(fs.toList.map λf=>(f.type,f.offset,P.cellsOf f.type)) == gs&&gs.all (λg=>Nat.blt 0 g.2.2)
  | _=>false
 | .arr n e=>match P.underlying t with|some (.array n' e')=>n == n'&&e == e'|_=>false
 | .map k v=>match P.underlying t with|some (.map k' v')=>k == k'&&v == v'|_=>false
 | .other=>match P.underlying t with|some (.struct _)=>false|some (.array _ _)=>false|some _=>true|none=>false
def V5 (P:Program) (t:TypeId) (i:TI):Bool :=
 (match P.info? t with|some inf=>inf.size == i.size&&inf.bytes == i.bytes|none=>false)&&i.zero.cells.size == i.size&&Nat.blt 0 i.size&&adD P t i.d
theorem abo {P:Program} {t:TypeId} {i:TI} (hz:(P.info? t).map (·.zero)=some (some i.zero)) (hb:V5 P t i=true)
  (hf:i.flat=true->i.agg=true/\∀(vs us:List Value) (w:World),vs.length=i.size->us.length=i.size ->
   qg vs us=true->qg vs i.zero.cells.toList=true->∀op x y,(op=.eql\/op=.neq) ->
   (do eqGuard op t x y (.agg vs.toArray) (.agg us.toArray);binOp op t (.agg vs.toArray) (.agg us.toArray):Sem Value).run P w =
    .ok (.bool (if op=.eql then sO vs us else !sO vs us)) w)
  (hk:∀ks,i.kd=some ks->Bg P t (.ints ks):=by intro _ h;cases h):ly P t i:=by
 unfold V5 at hb
 simp only [cQ,beq_iff_eq] at hb
 obtain ⟨⟨⟨h1,h2⟩,h3⟩,h4⟩:=hb
 refine ⟨?_,h2,by simpa [FQ] using h3,?_,hf,hk⟩
 ·cases hi:P.info? t with
  | none=>rw [hi] at hz;cases hz
  | some inf =>
   rw [hi] at hz h1
   simp at hz h1
   exact ⟨inf,rfl,h1.1,h1.2,hz⟩
 ·cases hd:i.d<;>rw [hd] at h4<;>simp only [adD] at h4 ⊢
  case int k=>split at h4<;>first|(simp at h4;subst h4;assumption)|cases h4
  case bool=>split at h4<;>first|assumption|cases h4
  case str=>split at h4<;>first|assumption|cases h4
  case sl e=>split at h4<;>first|(simp at h4;subst h4;assumption)|cases h4
  case ptr e=>split at h4<;>first|(simp at h4;subst h4;assumption)|cases h4
  case arr n e=>split at h4<;>first|(simp at h4;obtain ⟨rfl,rfl⟩:=h4;assumption)|cases h4
  case map k v=>split at h4<;>first|(simp at h4;obtain ⟨rfl,rfl⟩:=h4;assumption)|cases h4
  case st gs =>
   split at h4
   ·rename_i fs hu
    simp only [cQ,beq_iff_eq,jo] at h4
    obtain ⟨e,kY⟩:=h4
    refine ⟨fs,hu,by rw [<-e];simp,λj f hj=>?_⟩
    have hg:gs[j]?=some (f.type,f.offset,P.cellsOf f.type):=by rw [<-e];simp [hj]
    have hp:=kY _ (cB hg)
    unfold Program.cellsOf at hp hg
    cases hi:P.info? f.type with
    | none=>rw [hi] at hp;simp [FQ] at hp
    | some inf =>
     rw [hi] at hp hg
     refine ⟨inf,rfl,?_,by simpa using hg⟩
     have:0 < inf.size:=by simpa [FQ] using hp
     omega
   ·cases h4
  case other =>
   split at h4
   ·cases h4
   ·cases h4
   ·rename_i d h5 h6 hu
    exact ⟨d,hu,λx e=>h5 x e,λn e' e=>h6 n e' e⟩
   ·cases h4
theorem Dp {P : Program} {f : FuncId} {fn : Func} (h : P.funcs[f]? = some fn) (hb : (fn.body.isSome && !(fn.name == "runtime.NumGoroutine")) = true) : lz P f fn := by
 simp only [cQ,pw] at hb
 exact ⟨h,hb.1,hb.2⟩
theorem dt {n:Int} (h1:-9223372036854775808<=n) (h2:n<=9223372036854775807):IntKind.i64.wrap n=n:=by
 rw [IntKind.wrap_i64]
 omega
def GX (P:Program) (t:TypeId) (z:Value):Bool :=
 match P.underlying t,z with
 | some (.int _),.int _ _=>true
 | some .bool,.bool _=>true
 | some .string,.string _=>true
 | _,_=>false
section
variable {P:Program}
theorem ajL {t:TypeId} {z:Value} (hf:GX P t z=true) (d:Nat) (a b:Value) (h:vf a b=true) (hz:vf a z=true) (w:World) :
  (Op.equalIn (d+1) t a b).run P w=.ok (Be a b) w:=by
 unfold GX at hf
 split at hf
 ·rename_i k k' n hu
  cases a<;>simp [vf] at hz
  cases b<;>simp [vf] at h
  subst h
  simp [Op.equalIn,run_underlying hu,Be]
 ·rename_i c hu
  cases a<;>simp [vf] at hz
  cases b<;>simp [vf] at h
  simp [Op.equalIn,run_underlying hu,Be]
 ·rename_i c hu
  cases a<;>simp [vf] at hz
  cases b<;>simp [vf] at h
  simp [Op.equalIn,run_underlying hu,Be]
 ·cases hf
theorem Sx {t:TypeId} {z:Value} (hf:GX P t z=true) (cs:Array Value) (off:Nat) (v:Value) (hv:cs[off]?=some v) (w:World):(part t cs off).run P w=.ok v w:=by
 unfold GX at hf
 split at hf
 ·rename_i k k' n hu;simp [part,isAgg,run_underlying hu,hv]
 ·rename_i c hu;simp [part,isAgg,run_underlying hu,hv]
 ·rename_i c hu;simp [part,isAgg,run_underlying hu,hv]
 ·cases hf
def xK (P:Program):List Field->List Value->Nat->Bool
 | [],[],_=>true
 | f :: fs, z :: zs, off => f.offset == off && !(f.name == "_") && GX P f.type z && xK P fs zs (off + 1)
 | _,_,_=>false
theorem QL (d:Nat) (xs ys:Array Value):∀(fs:List Field) (zs vs us:List Value) (off:Nat),xK P fs zs off=true->xs.toList.drop off=vs->ys.toList.drop off=us->qg vs us=true->qg vs zs=true ->
  ∀w,(Op.eqFields (d+1) xs ys fs).run P w=.ok (sO vs us) w
 | [],zs,vs,us,off,hs,hx,hy,h1,h2,w=>by
  cases zs with
  | cons _ _=>simp [xK] at hs
  | nil =>
   cases vs with
   | cons _ _=>simp [qg] at h2
   | nil=>simp [Op.eqFields,sO]
 | f :: fs,[],vs,us,off,hs,hx,hy,h1,h2,w=>by simp [xK] at hs
 | f :: fs,z :: zs,vs,us,off,hs,hx,hy,h1,h2,w=>by
  simp only [xK,cQ,beq_iff_eq,pw] at hs
  obtain ⟨⟨⟨ho,hn⟩,hf⟩,hs⟩:=hs
  cases vs with
  | nil=>simp [qg] at h2
  | cons v vs =>
   cases us with
   | nil=>simp [qg] at h1
   | cons u us =>
    simp only [qg,cQ] at h1 h2
    have V6:xs[off]?=some v:=by
     have:=congrArg (λl=>l[0]?) hx
     simp only [ky,IH,rK] at this
     simpa using this
    have EF:ys[off]?=some u:=by
     have:=congrArg (λl=>l[0]?) hy
     simp only [ky,IH,rK] at this
     simpa using this
    have jK:xs.toList.drop (off+1)=vs:=by rw [<-List.drop_drop,hx];rfl
    have oC:ys.toList.drop (off+1)=us:=by rw [<-List.drop_drop,hy];rfl
    have ih:=QL d xs ys fs zs vs us (off+1) hs jK oC h1.2 h2.2 w
    have tj : f.name ≠ "_" := by simpa using hn
    simp only [Op.eqFields]
    rw [if_pos tj]
    simp only [Sem.run_bind,ho,Sx hf xs off v V6,Sx hf ys off u EF,Result.andThen_ok,ajL hf d v u h1.1 h2.1,sO]
    cases hq:Be v u
    ·simp
    ·simpa using ih
theorem ajq {t:TypeId} {zs:List Value} (hu:P.underlying t=some (.struct (P.fieldsOf t))) (hp:P.stoodInHeld t=false) (hg:P.eqGuardType P.depth t=false) (hs:xK P (P.fieldsOf t).toList zs 0=true)
  (vs us:List Value) (w:World) (h1:qg vs us=true) (h2:qg vs zs=true) (op:BinOp) (x y:Operand) (fC:op=.eql\/op=.neq) :
  (do eqGuard op t x y (.agg vs.toArray) (.agg us.toArray);binOp op t (.agg vs.toArray) (.agg us.toArray):Sem Value).run P w=.ok (.bool (if op=.eql then sO vs us else !sO vs us)) w:=by
 have he:=QL (P:=P) 9998 vs.toArray us.toArray (P.fieldsOf t).toList zs vs us 0 hs (by simp) (by simp) h1 h2 w
 have hr:=run_equalIn_struct w 9999 t vs.toArray us.toArray hu hp
 rcases fC with rfl|rfl
 ·simp only [Sem.run_bind,run_eqGuard_agg w _ t x y _ _ hg,Result.andThen_ok,run_eql_struct w]
  rw [hr,he];rfl
 ·simp only [Sem.run_bind,run_eqGuard_agg w _ t x y _ _ hg,Result.andThen_ok,run_neq_struct w]
  rw [hr,he];rfl
theorem RV:∀{ks:List IntKind} {l l':List Int},l.length=ks.length->l'.length=ks.length->qg (fM ks l) (fM ks l')=true
 | [],[],[],_,_=>rfl
 | k :: ks,a :: l,b :: l',h,h'=>by
  simp only [fM,qg,vf,beq_self_eq_true,IY]
  exact RV (by simpa using h) (by simpa using h')
 | [],_ :: _,_,h,_=>by simp at h
 | [],[],_ :: _,_,h=>by simp at h
 | _ :: _,[],_,h,_=>by simp at h
 | _ :: _,_ :: _,[],_,h=>by simp at h
theorem Zk:∀ks:List IntKind,(ks.map λk=>Value.int k 0)=fM ks (ks.map λ_=>0)
 | []=>rfl
 | k :: ks=>by simp only [iE,fM,Zk ks]
theorem abp:∀{ks:List IntKind} {l l':List Int},l.length=ks.length->l'.length=ks.length->sO (fM ks l) (fM ks l')=decide (l=l')
 | [],[],[],_,_=>rfl
 | k :: ks,a :: l,b :: l',h,h'=>by
  simp only [fM,sO,Be,abp (ks:=ks) (l:=l) (l':=l') (by simpa using h) (by simpa using h'),MR]
  by_cases e:a=b<;>simp [e]
 | [],_ :: _,_,h,_=>by simp at h
 | [],[],_ :: _,_,h=>by simp at h
 | _ :: _,[],_,h,_=>by simp at h
 | _ :: _,_ :: _,[],_,h=>by simp at h
theorem XC (em:Bool) (cs:Array Value):∀(fs:List Field) (ks:List IntKind) (l:List Int) (off:Nat),xK P fs (ks.map λk=>.int k 0) off=true->cs.toList.drop off=fM ks l->l.length=ks.length ->
  ∀ w, (forIn (m := Sem) fs PUnit.unit λf _ => if f.name ≠ "_" then (do Instr.checkKey em 9999 f.type (<- part f.type cs f.offset); pure (ForInStep.yield PUnit.unit)) else pure (ForInStep.yield PUnit.unit)).run P w = .ok PUnit.unit w
 | [],ks,l,off,_,_,_,w=>by simp
 | f :: fs,[],l,off,hs,_,_,w=>by simp [xK] at hs
 | f :: fs,k :: ks,[],off,_,_,h,w=>by simp at h
 | f :: fs,k :: ks,a :: l,off,hs,hx,hl,w=>by
  simp only [xK,iE,cQ,beq_iff_eq,pw] at hs
  obtain ⟨⟨⟨ho,hn⟩,hf⟩,hs⟩:=hs
  have V6:cs[off]?=some (.int k a):=by
   have:=congrArg (λl=>l[0]?) hx
   simp only [ky,fM,IH,rK] at this
   simpa using this
  have jK:cs.toList.drop (off+1)=fM ks l:=by rw [<-List.drop_drop,hx];rfl
  have ih:=XC em cs fs ks l (off+1) hs jK (by simpa using hl) w
  have tj : f.name ≠ "_" := by simpa using hn
  have hk:P.underlying f.type=some (.int k)\/∃k',P.underlying f.type=some (.int k'):=by
   unfold GX at hf
   split at hf
   ·rename_i k0 k' n hu _;exact .inr ⟨_,hu⟩
   ·rename_i e;cases e
   ·rename_i e;cases e
   ·cases hf
  have BZ:∀w,(Instr.checkKey em 9999 f.type (.int k a)).run P w=.ok () w:=λw=>by
   show (Instr.checkKey em (9998+1) f.type (.int k a)).run P w=_
   rw [Instr.checkKey]
   rcases hk with hk|⟨k',hk⟩<;>simp only [Sem.run_bind,run_underlying hk,Result.andThen_ok]<;>rfl
  rw [List.forIn_cons]
  simp only [tj,ne_eq,not_false_eq_true,if_true,Sem.run_bind,ho,Sx hf cs off _ V6,Result.andThen_ok,BZ,Sem.run_pure]
  exact ih
theorem ajM {t:TypeId} {ks:List IntKind} (hu:P.underlying t=some (.struct (P.fieldsOf t))) (hp:P.stoodInHeld t=false) (hs:xK P (P.fieldsOf t).toList (ks.map λk=>.int k 0) 0=true):Bg P t (.ints ks) where
 check:=λn hn em w=>by
  have h:=XC (P:=P) em (fM ks n).toArray (P.fieldsOf t).toList ks n 0 hs (by simp) hn w
  show (Instr.checkKey em (9999+1) t (.agg (fM ks n).toArray)).run P w=_
  rw [Instr.checkKey]
  simp only [Sem.run_bind,run_underlying hu,Result.andThen_ok]
  rw [<-Array.forIn_toList]
  simp at h ⊢
  rw [h]
  rfl
 find:=λn hn es hes w=>by
  have eq:∀(n':List Int),n'.length=ks.length->(Op.equal t (.agg (fM ks n).toArray) (.agg (fM ks n').toArray)).run P w=.ok (decide (n=n')) w:=by
   intro n' nY
   have he:=QL (P:=P) 9998 (fM ks n).toArray (fM ks n').toArray (P.fieldsOf t).toList _ (fM ks n) (fM ks n') 0 hs (by simp) (by simp) (RV hn nY) (by rw [Zk];exact RV hn (by simp)) w
   have hr:=run_equalIn_struct w 9999 t (fM ks n).toArray (fM ks n').toArray hu hp
   unfold Op.equal
   rw [show Op.maxDepth=9999+1 from rfl,hr,he,abp hn nY]
  have ask:∀(es:List MapEntry) (i:Nat),(∀e∈es,∃n',KD.ok (.ints ks) n'/\e.key=KD.enc (.ints ks) n')->((Instr.findAsking t (.agg (fM ks n).toArray) es i).run P w=.ok none w/\∀e∈es,e.key≠.agg (fM ks n).toArray) \/
    ∃j e,(Instr.findAsking t (.agg (fM ks n).toArray) es i).run P w=.ok (some (i+j,e.val)) w/\es[j]?=some e/\e.key=.agg (fM ks n).toArray:=by
   intro es
   induction es with
   | nil=>intro i _;exact .inl ⟨by simp [Instr.findAsking],by simp⟩
   | cons e es ih =>
    intro i h
    obtain ⟨n',h1,h2⟩:=h e (by simp)
    have h2:e.key=.agg (fM ks n').toArray:=h2
    have hq:=eq n' h1
    by_cases tj:n=n'
    ·right
     refine ⟨0,e,?_,rfl,by rw [h2,tj]⟩
     have hd:decide (n=n')=true:=by simpa using tj
     simp only [Instr.findAsking,Sem.run_bind,h2,hq,hd,Result.andThen_ok]
     simp
    ·have bW:e.key≠.agg (fM ks n).toArray:=by
      rw [h2]
      intro h3
      exact tj (KD.inj (k:=.ints ks) h1 hn h3).symm
     have hd:decide (n=n')=false:=by simpa using tj
     rcases ih (i+1) (λe he=>h e (by simp [he])) with ⟨g1,g2⟩|⟨j,e',g1,g2,g3⟩
     ·left
      refine ⟨?_,?_⟩
      ·simp only [Instr.findAsking,Sem.run_bind,h2,hq,hd,Result.andThen_ok]
       simpa using g1
      ·intro e' gm
       rcases cV.1 gm with rfl|gm
       ·exact bW
       ·exact g2 e' gm
     ·right
      refine ⟨j+1,e',?_,by simpa using g2,g3⟩
      simp only [Instr.findAsking,Sem.run_bind,h2,hq,hd,Result.andThen_ok]
      rw [show i+(j+1)=i+1+j by omega]
      simpa using g1
  show ((Instr.findKey t (.agg (fM ks n).toArray) es).run P w=.ok none w/\_)\/_
  have base:(Instr.findKey t (.agg (fM ks n).toArray) es).run P w=(Instr.findAsking t (.agg (fM ks n).toArray) es 0).run P w\/es=[]:=by
   cases es with
   | nil=>exact .inr rfl
   | cons e es =>
    left
    obtain ⟨n',h1,h2⟩:=hes e (by simp)
    have h2:e.key=.agg (fM ks n').toArray:=h2
    simp [Instr.findKey,run_underlying hu,Instr.findNow,h2,Instr.sameNow]
  rcases base with hb|rfl
  ·rcases ask es 0 hes with ⟨g1,g2⟩|⟨j,e,g1,g2,g3⟩
   ·exact .inl ⟨hb.trans g1,g2⟩
   ·exact .inr ⟨j,e,hb.trans (by simpa using g1),g2,g3⟩
  ·left
   refine ⟨?_,by simp⟩
   simp [Instr.findKey,run_underlying hu,Instr.findNow]
 stays:=λn hn w=>by
  have all:∀(ks:List IntKind) (l:List Int),((fM ks l).zip (fM ks l)).all (λ(x,y)=>Instr.sameBits 9999 x y)=true:=by
   intro ks
   induction ks with
   | nil=>intro l;cases l<;>rfl
   | cons k ks ih =>
    intro l
    cases l with
    | nil=>rfl
    | cons a l =>
     simp only [fM,List.zip_cons_cons,CX,ih l,RK]
     simp [Instr.sameBits]
  have hs:Instr.sameBits 10000 (.agg (fM ks n).toArray) (.agg (fM ks n).toArray)=true:=by
   rw [show (10000:Nat)=9999+1 from rfl,Instr.sameBits]
   simpa using all ks n
  show (Instr.keyThatStays (.agg (fM ks n).toArray) (.agg (fM ks n).toArray)).run P w=_
  unfold Instr.keyThatStays
  rw [if_pos hs]
  rfl
end
universe u
def B1 {α:Type u}:List (Nat × α)->Nat->Option α
 | [],_=>none
 | (k,x) :: r,n=>match Nat.beq k n with
  | true=>some x
  | false=>B1 r n
def tp {α:Type u} (p:Nat->α->Prop):List (Nat × α)->Prop
 | []=>True
 | (k,x) :: r=>p k x/\tp p r
theorem Nj {α:Type u} {p:Nat->α->Prop}:∀{l:List (Nat × α)},tp p l->∀f x,B1 l f=some x->p f x
 | [],_,f,x,h=>by simp [B1] at h
 | (k,y) :: r,ha,f,x,h=>by
  simp only [B1] at h
  split at h
  ·rename_i e
   simp at h;subst h
   have:=ot e
   subst this
   exact ha.1
  ·exact Nj ha.2 f x h
theorem aeL (n:Nat):(NatCast.natCast n:Int)=(n:Int):=rfl
theorem cx {p:Prop} (h:p:=by ((try simp only [Go.Vc.aeL] at *);omega)):p:=h
theorem oo0 {p:Prop} (h:p:=by omega):p:=h
theorem qF {p:Prop} (h:p:=by (((repeat' first|exact dF.nil|exact Le.refl _|refine dF.cons ?_ ?_|exact Le.ic rfl|exact Le.bc rfl|exact Le.i rfl|exact Le.b rfl|exact Le.sl rfl|exact Le.mp rfl|exact Le.gH rfl|exact Le.qu rfl|refine Le.cW rfl (λ_=>?_)|refine Le.eF rfl (λ_ _=>rfl) (λ_=>?_) ?_|refine Le.agg ?_|refine Le.cS ?_|refine Le.fn ?_ ?_|refine Le.dU ?_|exact trivial|refine And.intro ?_ ?_|refine λ_=>?_|exact Le.any _))<;>(first|(refine Le.i ?_;first|exact bH|exact jv|exact uE|exact yj|exact yk|exact qi6|exact qi7|exact hL|exact hL.symm|exact rfl)|(refine Le.sl ?_;first|exact gS|exact EG|exact HA|exact HB|exact qs5|exact qs6|exact qs7|exact rfl)|(refine db.map ?_;first|exact uF|exact qm2|exact qm3|exact qm4|exact qm5|exact qm6|exact qm7|exact rfl)|(refine db.dyn ?_;first|exact qd1|exact qd2|exact qd3|exact qd4|exact qd5|exact qd6|exact qd7|exact rfl)|(refine Le.ic ?_;first|exact iY|exact B2|exact PM|exact qc4|exact qc5|exact qc6|exact qc7|exact rfl)|(refine Le.bc ?_;first|exact eK|exact qv2|exact qv3|exact qv4|exact qv5|exact qv6|exact qv7|exact rfl)|(refine Le.b ?_;first|exact kQ|exact qb2|exact qb3|exact qb4|exact qb5|exact qb6|exact qb7|exact rfl)|(refine Le.str ?_;first|exact qt1|exact qt2|exact qt3|exact qt4|exact qt5|exact qt6|exact qt7|exact rfl)|(refine Le.mp ?_;first|exact KY|exact qp2|exact qp3|exact qp4|exact qp5|exact qp6|exact qp7|exact rfl)|exact fc|exact sr|exact yo|exact qx4|exact qx5|exact qx6|exact qx7|exact adE 2 qu1|exact db.iter rfl rfl (.inl rfl)))):p:=h
theorem bh {p:Prop} (h:p:=by (((try cbv)<;>(repeat' (first|with_reducible exact trivial|with_reducible refine And.intro ?_ ?_))<;>(try first|exact db.refl _|exact db.dyn rfl|exact db.map rfl|exact db.iter rfl rfl (.inl rfl)|exact db.iter rfl rfl (.inr rfl)|refine db.fix ?_|refine db.dyn ?_)<;>((repeat' first|exact dF.nil|exact Le.refl _|refine dF.cons ?_ ?_|exact Le.ic rfl|exact Le.bc rfl|exact Le.i rfl|exact Le.b rfl|exact Le.sl rfl|exact Le.mp rfl|exact Le.gH rfl|exact Le.qu rfl|refine Le.cW rfl (λ_=>?_)|refine Le.eF rfl (λ_ _=>rfl) (λ_=>?_) ?_|refine Le.agg ?_|refine Le.cS ?_|refine Le.fn ?_ ?_|refine Le.dU ?_|exact trivial|refine And.intro ?_ ?_|refine λ_=>?_|exact Le.any _)))<;>(first|(refine Le.i ?_;first|exact bH|exact jv|exact uE|exact yj|exact yk|exact qi6|exact qi7|exact hL|exact hL.symm|exact rfl)|(refine Le.sl ?_;first|exact gS|exact EG|exact HA|exact HB|exact qs5|exact qs6|exact qs7|exact rfl)|(refine db.map ?_;first|exact uF|exact qm2|exact qm3|exact qm4|exact qm5|exact qm6|exact qm7|exact rfl)|(refine db.dyn ?_;first|exact qd1|exact qd2|exact qd3|exact qd4|exact qd5|exact qd6|exact qd7|exact rfl)|(refine Le.ic ?_;first|exact iY|exact B2|exact PM|exact qc4|exact qc5|exact qc6|exact qc7|exact rfl)|(refine Le.bc ?_;first|exact eK|exact qv2|exact qv3|exact qv4|exact qv5|exact qv6|exact qv7|exact rfl)|(refine Le.b ?_;first|exact kQ|exact qb2|exact qb3|exact qb4|exact qb5|exact qb6|exact qb7|exact rfl)|(refine Le.str ?_;first|exact qt1|exact qt2|exact qt3|exact qt4|exact qt5|exact qt6|exact qt7|exact rfl)|(refine Le.mp ?_;first|exact KY|exact qp2|exact qp3|exact qp4|exact qp5|exact qp6|exact qp7|exact rfl)|exact fc|exact sr|exact yo|exact qx4|exact qx5|exact qx6|exact qx7|exact adE 2 qu1|exact db.iter rfl rfl (.inl rfl)))):p:=h
theorem bX {p:Prop} (h:p:=by (((try cbv)<;>((repeat' first|exact dF.nil|exact Le.refl _|refine dF.cons ?_ ?_|exact Le.ic rfl|exact Le.bc rfl|exact Le.i rfl|exact Le.b rfl|exact Le.sl rfl|exact Le.mp rfl|exact Le.gH rfl|exact Le.qu rfl|refine Le.cW rfl (λ_=>?_)|refine Le.eF rfl (λ_ _=>rfl) (λ_=>?_) ?_|refine Le.agg ?_|refine Le.cS ?_|refine Le.fn ?_ ?_|refine Le.dU ?_|exact trivial|refine And.intro ?_ ?_|refine λ_=>?_|exact Le.any _)))<;>(first|(refine Le.i ?_;first|exact bH|exact jv|exact uE|exact yj|exact yk|exact qi6|exact qi7|exact hL|exact hL.symm|exact rfl)|(refine Le.sl ?_;first|exact gS|exact EG|exact HA|exact HB|exact qs5|exact qs6|exact qs7|exact rfl)|(refine db.map ?_;first|exact uF|exact qm2|exact qm3|exact qm4|exact qm5|exact qm6|exact qm7|exact rfl)|(refine db.dyn ?_;first|exact qd1|exact qd2|exact qd3|exact qd4|exact qd5|exact qd6|exact qd7|exact rfl)|(refine Le.ic ?_;first|exact iY|exact B2|exact PM|exact qc4|exact qc5|exact qc6|exact qc7|exact rfl)|(refine Le.bc ?_;first|exact eK|exact qv2|exact qv3|exact qv4|exact qv5|exact qv6|exact qv7|exact rfl)|(refine Le.b ?_;first|exact kQ|exact qb2|exact qb3|exact qb4|exact qb5|exact qb6|exact qb7|exact rfl)|(refine Le.str ?_;first|exact qt1|exact qt2|exact qt3|exact qt4|exact qt5|exact qt6|exact qt7|exact rfl)|(refine Le.mp ?_;first|exact KY|exact qp2|exact qp3|exact qp4|exact qp5|exact qp6|exact qp7|exact rfl)|exact fc|exact sr|exact yo|exact qx4|exact qx5|exact qx6|exact qx7|exact adE 2 qu1|exact db.iter rfl rfl (.inl rfl)))):p:=h
theorem hS:(∀{a b:Int},gI a b=decide (a<=b))/\(∀{a b:Int},dw a b=decide (a < b))/\(∀{a b:Int},eW a b=(a == b)) /\
  (∀{n:Int},-9223372036854775808<=n->n<=9223372036854775807->IntKind.i64.wrap n=n)/\(∀{a b:Int},((a == b)=true)=(a=b))/\(∀{p:Prop} [Decidable p],(decide p=true)=p) /\
  (∀{p:Prop} [Decidable p],(decide p=false)=¬p)/\(∀{a:Bool},((!a)=true)=(a=false))/\(∀{a b:Int},((a == b)=false)=(a≠b))/\(∀{α:Type} {a b:α},(a≠b)=¬(a=b)) /\
  (∀{a b:Bool},((a&&b)=true)=(a=true/\b=true))/\(∀{a b:Bool},((a||b)=true)=(a=true\/b=true))/\(∀{α:Type} {a b:α},(if True then a else b)=a)/\(∀{α:Type} {a b:α},(if False then a else b)=b) /\
  (∀{a:Bool},(¬(a=true))=(a=false))/\((false=true)=False)/\((true=false)=False)/\(∀{a:Bool},(¬(a=false))=(a=true)):=by
 refine ⟨rfl,rfl,rfl,dt,?_,?_,?_,?_,?_,rfl,?_,?_,?_,?_,?_,?_,?_,?_⟩<;>intros<;>simp
theorem ltT {a b:Nat} (h:dw a b=true):a < b:=by simpa [dw] using h
theorem OT {a b:Int} (h:dw a b=true):a < b:=by simpa [dw] using h
theorem ltF {a b:Nat} (h:dw a b=false):b<=a:=by simpa [dw] using h
theorem Ka {a b:Int} (h:dw a b=false):b<=a:=by simpa [dw] using h
theorem Ee {a b:Int} (h:gI a b=true):a<=b:=by simpa [gI] using h
theorem Ef {a b:Int} (h:gI a b=false):b < a:=by simpa [gI] using h
theorem eqT {a b:Int} (h:eW a b=true):a=b:=by simpa [eW] using h
theorem eqF {a b:Int} (h:eW a b=false):¬a=b:=by simpa [eW] using h
theorem neT {a b:Int} (h:(!eW a b)=true):¬a=b:=by simpa [eW] using h
theorem neF {a b:Int} (h:(!eW a b)=false):a=b:=by simpa [eW] using h
theorem aH {p:Prop} (g:p:=by first|exact OT h.out|exact ltT h.out|exact eqF h.out|exact eqT h.out|exact Ka h.out|exact C0.2 (Ka h.out)|exact Ee h.out|exact Ef h.out|exact C1.2 (Ef h.out)|exact neT h.out|exact neF h.out|(have h':=h.out;simp only [hS] at h';simp only [Go.Vc.aeL] at *;omega)|(have h':=h.out;simpa [dw,gI,eW] using h')):p:=g
theorem df0 {x:Unit->Bool} {A B:Prop} (b:B) (h:¬x ()=true:=by simp [eW,Expr.op]):(zB x->A)/\(zC x->B):=⟨λt=>absurd t.out h,λ_=>b⟩
theorem dt0 {x:Unit->Bool} {A B:Prop} (a:A) (h:¬x ()=false:=by simp [eW,Expr.op]):(zB x->A)/\(zC x->B):=⟨λ_=>a,λt=>absurd t.out h⟩
@[reducible] def HC (T:TypeId->Option TI) (E:TypeId->Option gA) (fs:List (Nat × Func)) (sp:List (Nat × Spec)) (io lp cut row emp:List Nat):Ctx :=
 { tt:=T,el:=E,sp:=λf=>B1 sp (id f),inl:=λf=>B1 fs (id f),io:=λf=>ga f io,lp:=λf=>ga f lp,cut:=λf=>ga f cut,row:=λt=>ga t row,emp:=λt=>ga t emp }
def CB (PP:Unit->Program) (X:Ctx):Prop:=X.Ok (PP ())/\nO X
theorem JK {PP:Unit->Program} {T:TypeId->Option TI} {E:TypeId->Option gA} {fs:List (Nat × Func)} {sp:List (Nat × Spec)} {io lp cut row emp:List Nat} (ht:∀t i,T t=some i->ly (PP ()) t i)
 (he:∀X:Ctx,X.tt=T->∀t e,E t=some e->Bh (PP ()) X t e) (hm:(PP ()).follows .mixedOrders=true) (hf:tp (λf fn=>lz (PP ()) f fn/\mZ fn=true) fs) (hs:tp (λf S=>cR (PP ()) f S) sp) :
 CB PP (HC T E fs sp io lp cut row emp):=⟨⟨ht,he _ rfl,Nj hs,λf fn h=>(Nj hf f fn h).1,hm⟩,λf fn h=>(Nj hf f fn h).2⟩
theorem fo {P : Program} {f : FuncId} {fn : Func} (h : P.funcs[f]? = some fn) (hb : (fn.body.isSome && !(fn.name == "runtime.NumGoroutine")) = true := by kernel_rfl) (hc : mZ fn = true := by kernel_rfl) : lz P f fn /\ mZ fn = true := ⟨Dp h hb, hc⟩
section
variable {PP:Unit->Program} {X:Ctx} {fid:FuncId} {fn:Func}
theorem et (B:CB PP X) (F:lz (PP ()) fid fn/\mZ fn=true) {S:Spec} (cw:∀a,cI (S.args a)) (iI:∀a,LF (S.res a)) (h0:∀a,S.pre a->aeG PP X 2 fn (S.args a) (S.res a)) (kO:S.fr=false:=by rfl):cR (PP ()) fid S :=
 ajK B.1 B.2 F.1 F.2 cw iI h0 kO
theorem acd (B:CB PP X) (F:lz (PP ()) fid fn/\mZ fn=true) {S:Spec} (cw:∀a,cI (S.args a)) (iI:∀a,LF (S.res a)) (h0:∀a,S.pre a->adC PP X 2 fn (S.args a) (S.res a)):cR (PP ()) fid S :=
 ajp B.1 B.2 F.1 F.2 cw iI h0
theorem qS (B:CB PP X) (F:lz (PP ()) fid fn/\mZ fn=true) {S:jT} (cw:∀a,cI (S.args a)) (iI:∀a y,LF (S.res a y)) (h0:∀a,S.pre a->adB PP X 2 fn S a):k7 PP fid S :=
 ajo B.1 B.2 F.1 F.2 cw iI h0
theorem tl (B:CB PP X) (F:lz (PP ()) fid fn/\mZ fn=true) {Sp:pC} (hw:∀a y,PL Sp.mv (Sp.io a) (Sp.mM a y)=true) (hm:∀a,Ed Sp.mv 0 (Sp.io a)=true/\Hz (Sp.io a).length Sp.mv=true) (V4:Sp.mv.Nodup)
 (h0:∀a,Sp.pre a->aeK PP X 2 fn Sp a):nT PP fid Sp:=alk B.1 B.2 F.1 F.2 hw hm V4 h0
variable {S:List SV} {r:Bool} {s:St} {body:Code} {k:Exit->St->Prop}
theorem Sat.j2 (B:CB PP X) (h:xb S r PP X 2 body s k) (hc:codeOk body=true:=by kernel_rfl):Sat S r PP body s k:=Sat.go B.1 B.2 hc h
theorem Sat.aAi (B:CB PP X) (n:Nat) (h:SQ S r PP X 2 body n s k) (hc:codeOk body=true:=by kernel_rfl):Sat S r PP (.loop body) s k:=Sat.rounds B.1 B.2 hc n h
theorem Sat.aBr (B:CB PP X) {α:Type} (n:Nat) (own:List (Place × Nat)) (I:α->St) (J:α->Prop) (μ:α->Nat) (x0:α) (h0:rp (s.cut n).t (I x0).t) (sq:n7 (s.cut n).b (I x0).b) (hJ:J x0)
 (hr:∀x,J x->xb S r PP X 2 body (I x) (NJ S n own I J μ x k)) (hc:codeOk body=true:=by kernel_rfl) (hn:ng (Nat.ble n) S=false:=by rfl):Sat S r PP (.loop body) s k:=Sat.loop B.1 B.2 hc n own I J μ x0 h0 sq hJ hr hn
theorem Sat.dq (B:CB PP X) {α:Type} (n m:Nat) (own:List (Place × Nat)) (ut:α->List (Nat × SV)) (ub:α->List (Nat × Slot)) (J:α->Prop) (μ:α->Nat) (x0:α)
  (h0:rp (s.cut n).t (s.patch n m (ut x0) (ub x0)).t) (sq:n7 (s.cut n).b (s.patch n m (ut x0) (ub x0)).b) (hJ:J x0)
  (hr:∀x,J x->xb S r PP X 2 body (s.patch n m (ut x) (ub x)) (NJ S n own (λx=>s.patch n m (ut x) (ub x)) J μ x k)) (hc:codeOk body=true:=by kernel_rfl) (hn:ng (Nat.ble n) S=false:=by rfl):Sat S r PP (.loop body) s k :=
 Sat.apX B.1 B.2 hc n m own ut ub J μ x0 h0 sq hJ hr hn
end
def jT.fun (S:jT):Spec:={ α:=S.α,args:=S.args,pre:=S.pre,res:=λa=>.opt (S.post a) (S.res a) }
theorem k7.fun {P:Unit->Program} {f:FuncId} {S:jT} {fn:Func} (I:k7 P f S) (F:lz (P ()) f fn):cR (P ()) f S.fun where
 fn:=⟨fn,F⟩
 lf:=I.lf
 lr:=λa=>by show LF (.opt (S.post a) (S.res a));simp only [LF];exact λy=>I.lr a y
 fresh:=λh=>by cases h
 run:=λa eD H F' w vals hH hF jI=>by
  refine (I.run a eD H F' w vals hH hF jI).mono ?_
  rintro e w' ⟨y,v,H',h1,h2,h3,h4,h5,h6,h7,h8⟩
  refine ⟨v,H',h2,h3,h4,h5,h6,?_,h8⟩
  show rel _ _ _ (.opt (S.post a) (S.res a)) v
  simp only [rel]
  exact ⟨⟨y,h1,h7⟩,λt=>I.lr a t⟩
theorem k7.opt {P:Unit->Program} {f:FuncId} {S T:jT} (I:k7 P f S) {U:Type} (p:T.α->U->Prop) (x:U->SV) (r:T.α->List SV) (c:T.α->U->S.α) (cw:∀u,LF (x u)) (hr:∀a,cI (r a))
  (hT:∀a,T.args a=.opt (p a) x :: r a) (hS:∀a u,S.args (c a u)=x u :: r a) (hp:∀a u,T.pre a->p a u->S.pre (c a u)) (hb:T.β=S.β) (hq:∀a u y,p a u->T.pre a->S.post (c a u) y->T.post a (hb ▸ y)/\S.res (c a u) y=T.res a (hb ▸ y)) (EH:∀a y,LF (T.res a y)):k7 P f T where
 lf:=λa=>by
  rw [hT]
  exact ⟨by simp only [LF];exact cw,hr a⟩
 lr:=EH
 run:=λa eD H F' w vals hH hF jI=>by
  rw [hT] at jI
  simp only [aQ,rel] at jI
  obtain ⟨v,vs,rfl,⟨⟨u,hu,hv⟩,_⟩,rZ⟩:=jI
  refine (I.run (c a u) (hp a u eD hu) H F' w (v :: vs) hH hF (by rw [hS];simp only [aQ];exact ⟨v,vs,rfl,hv,rZ⟩)).mono ?_
  rintro e w' ⟨y,v',H',h1,h2,h3,h4,h5,h6,h7,h8⟩
  obtain ⟨q1,q2⟩:=hq a u y hu eD h1
  rw [q2] at h7
  exact ⟨_,v',H',q1,h2,h3,h4,h5,h6,h7,h8⟩
section
variable {f:Fr} {s:St} {η:Nat->Value} {H:bB} {a:Act} {w:World} {S:List SV} {r:Bool}
theorem aao {T:Type} {c:T->List SV}:∀{xs:List T} {vals:List Value},vals.length=xs.length->(∀(j:Nat) x,xs[j]?=some x->∃u,vals[j]?=some u/\dJ H (c x) [u])->dJ H (xs.flatMap c) vals
 | [],vals,hl,_=>by
  have:vals=[]:=iF hl
  subst this;rfl
 | x :: xs,[],hl,_=>by simp at hl
 | x :: xs,v :: vals,hl,h=>by
  obtain ⟨u,h1,h2⟩:=h 0 x rfl
  simp at h1;subst h1
  rw [qN]
  exact iP (v:=[v]) h2 (aao (by simpa using hl) λj y hy=>by
   obtain ⟨u,h3,h4⟩:=h (j+1) y (by simpa using hy)
   exact ⟨u,by simpa using h3,h4⟩)
theorem rM.arL {e:TypeId} {v:Value} {n:Nat} {vals:List Value} (h:rM w e 1 v n vals):vals.length=n:=by
 rcases h with ⟨h,_⟩|⟨_,h1,h2⟩
 ·have:=h.1;omega
 ·rw [h1,h2];rfl
theorem Den.fill (D:Den f s η H a w) {m:Nat} {T:Type} {e:TypeId} {c:T->List SV} {xs:Unit->List T} {i:Unit->Nat} {ys:List SV} (hm:s.b[m]?=some (.fu e c xs i ys)) (t:T) (ht:dF ys (c t)) :
  Den f ⟨s.t,s.b.set m (.dyn e 1 c λ_=>(xs ()).set (i ()) t)⟩ η H a w:=by
 have cO:aW s.b m=.live:=by rw [cv hm];rfl
 refine D.change (w':=w) (η':=η) (l:=m) (x:=.dyn e 1 c λ_=>(xs ()).set (i ()) t) none (b':=s.b.set m _) rfl (λ_ _=>rfl) (.inr ⟨cO,rfl,rfl⟩) rfl (λ_ h=>by cases h) none (p9 w none) (λk hk=>by cases hk)
  (λb hb=>.inr (.inr ⟨cO,hb⟩)) λT=>?_
 obtain ⟨vals,h1,h2,⟨u,h3,h4⟩,h5,h6⟩:=D.sl m _ hm
 have h7:dJ H (c t) [u]:=kA _ _ (h6 t).1 (jG ht h4)
 have hl:=h1.arL
 refine ⟨vals,by simpa using h1,aao (by simpa using hl) λj x hx=>?_,λx hx=>?_,h6⟩
 ·rw [gY] at hx
  split at hx
  ·rename_i e
   split at hx
   ·simp at hx;subst hx
    exact ⟨u,by rw [<-e];exact h3,h7⟩
   ·cases hx
  ·rename_i e
   exact h2 j x hx λq=>e q.symm
 ·rcases C4 hx with hx|rfl
  ·exact h5 x hx
  ·have:=jn h7;simp at this;omega
theorem Sat.fill {P:Unit->Program} {co:Code} {k:Exit->St->Prop} (m:Nat) {T:Type} {e:TypeId} {c:T->List SV} {xs:Unit->List T} {i:Unit->Nat} {ys:List SV} (hm:s.b[m]?=some (.fu e c xs i ys)) (t:T) (ht:dF ys (c t))
 (h:Sat S r P co ⟨s.t,s.b.set m (.dyn e 1 c λ_=>(xs ()).set (i ()) t)⟩ k):Sat S r P co s k:=⟨λF R f η H a w hS D=>h.out F R f η H a w hS (D.fill hm t ht)⟩
end
section
variable {H:Type} {enc:TypeId × Value->H} {P:Program} {W W':World}
theorem XN (hl:laidOutB P=true) (hb:Below W.heap.size W W') {sp:Nat->Bool}:∀{ts:List TypeId} {vs:List Value} {ds:List (DataW H)} {ps:List MemPlace},
  (∀t∈ts,P.readableRec t=true/\t < P.types.size)->DataW.TrodAll enc P W 0 (λ_=>true) true ts vs ds ps->(∀p∈ps,p.block < W.heap.size)->(∀p∈ps,sp p.block=true) ->
  DataW.TrodAll enc P W' 0 sp true ts vs ds ps
 | [],[],[],_,_,h,_,_=>h
 | t :: ts,v :: vs,d :: ds,ps,ht,⟨p,q,h1,h2,e⟩,aP,hs=>by
  subst e
  refine ⟨p,q,?_,?_,rfl⟩
  ·exact WideElems.Trod_stays hl (ht t (by simp)).1 (ht t (by simp)).2 h1 (λx hx=>hb.same (aP x (by simp [hx]))) (λx hx=>hs x (by simp [hx]))
  ·exact XN hl hb (λu hu=>ht u (by simp [hu])) h2 (λx hx=>aP x (by simp [hx])) (λx hx=>hs x (by simp [hx]))
theorem alm {f:Func} {s:ChangeSpec} {fresh handsOn again:Bool} {args:Array Value} {ds gs:List (DataW H)} {before:List MemPlace}
  (hl:laidOutB P=true) (Hq:∀t∈f.params.toList,P.readableRec t=true/\t < P.types.size) {tb:TypeId} (hr:f.resultTypes=#[tb]) (HD:P.underlying tb=some .bool)
  (zM:s.vars=[]) (iI:(s.fn H (ds++gs)).results=[.lit (.bool true)]) (nN:(s.fn H (ds++gs)).args=ds) (rZ:(s.fn H (ds++gs)).vars=[])
  (hW:DataW.Whole enc P f.params.toList s.vars false W args.toList ds gs before) (hb:Below W.heap.size W W') :
  s.post enc P f false fresh handsOn again W args (.bool true) W':=by
 obtain ⟨p,q,hA,hV,e,PN,gC⟩:=hW
 have hq:q=[]:=by
  rw [zM] at hV
  cases gs with
  | nil=>exact hV
  | cons g gs=>exact hV.elim
 subst hq
 have hp:before=p:=by rw [e];simp
 subst hp
 have aP:=DataW.Whole.lt ⟨before,[],hA,hV,by simp,PN,gC⟩
 have hR:∀(b:Nat) (sp:Nat->Bool) (hd:Bool),DataW.TrodAll enc P W' b sp hd f.resultTypes.toList ((Value.bool true).resultList f.resultTypes.size) (s.fn H (ds++gs)).results []:=by
  intro b sp hd
  rw [hr,iI]
  exact trodAll_cons_mk (shut_bool HD _) trodAll_mk0
 have hAr:∀sp:Nat->Bool,(∀p∈before,sp p.block=true)->DataW.TrodAll enc P W' 0 sp true f.params.toList args.toList (s.fn H (ds++gs)).args before:=by
  intro sp hs
  rw [nN]
  exact XN hl hb Hq hA aP hs
 have hVr:∀sp:Nat->Bool,DataW.TrodVars enc P W' sp s.vars (s.fn H (ds++gs)).vars []:=by
  intro sp
  rw [zM,rZ]
  rfl
 refine ⟨ds,gs,before,[],before,[],⟨before,[],hA,hV,by simp,PN,gC⟩,hR _ _ _,hAr _ (λp hp=>by simpa using aP p hp),hVr _,hb.frame _,λ_=>?_⟩
 refine ⟨?_,_,_,([]++before)++[],⟨[]++before,[],trodAll_append (hAr _ (λ_ _=>rfl)) (hR _ _ _),hVr _,rfl,?_,?_⟩,?_⟩
 ·exact ok_one hr rfl (okWide_bool_mk HD _)
 ·intro b off hp
  have hp:MemPlace.cell b off∈before:=by simpa using hp
  rw [hb.frozen (aP _ hp)]
  exact PN b off hp
 ·intro ha;cases ha
 ·intro p hp _
  simpa using hp
theorem aiT {w w':World} (h:(je w).jh w') (h1:w'.os=w.os) (h2:w'.tape=w.tape) (h3:w'.output=w.output):Below w.heap.size w w':=by
 have g:=Mg h h1 h2 h3
 exact ⟨g.os,g.tape,g.output,g.size,λk hk=>g.block k hk (by simp)⟩
theorem aln {S:Spec} {fid:FuncId} (h:cR P fid S) (a:S.α) (ha:S.pre a) (iI:S.res a=.bc true) {w:World} {vals:List Value} (jI:dJ (je w) (S.args a) vals) :
  Calls P fid vals.toArray w λe w'=>e=.returned (.bool true)/\Below w.heap.size w w':=by
 refine (h.run a ha (je w) (je w) w vals (Aq w) (Aq w) jI).mono ?_
 rintro e w' ⟨v,H',rfl,_,_,hF,_,hv,h1,h2,h3⟩
 rw [iI] at hv
 simp only [rel] at hv
 subst hv
 exact ⟨rfl,aiT hF h1 h2 h3⟩
end
theorem OU {a b:Nat}:(Nat.beq a b=true)=(a=b):=propext ⟨ot,λh=>h ▸ RL a⟩
inductive Ty where
 | int (k:IntKind)
 | bool
 | str
 | sl (e:Ty)
 | unit
 | pair (a b:Ty)
abbrev Ty.ny:Ty->Type
 | .int _=>Int
 | .bool=>Bool
 | .str=>ByteArray
 | .sl e=>List e.ny
 | .unit=>Unit
 | .pair a b=>a.ny × b.ny
def Ty.size:Ty->Nat
 | .unit=>0
 | .pair a b=>a.size+b.size
 | _=>1
def Ty.cells:(T:Ty)->T.ny->List SV
 | .int k,n=>[.i k λ_=>n]
 | .bool,b=>[.b λ_=>b]
 | .str,s=>[.str λ_=>s]
 | .sl e,xs=>[.sl e.size e.cells λ_=>xs]
 | .unit,_=>[]
 | .pair a b,x=>a.cells x.1++b.cells x.2
def Ty.wf:(T:Ty)->T.ny->Prop
 | .int k,n=>k.min<=n/\n<=k.max
 | .bool,_=>True
 | .str,s=>s.size<=maxLen
 | .sl e,xs=>xs.length<=maxLen/\∀x∈xs,e.wf x
 | .unit,_=>True
 | .pair a b,x=>a.wf x.1/\b.wf x.2
def Ty.arg:(T:Ty)->T.ny->SV
 | .int k,n=>.i k λ_=>n
 | .bool,b=>.b λ_=>b
 | .str,s=>.str λ_=>s
 | .sl e,xs=>.sl e.size e.cells λ_=>xs
 | .unit,_=>.agg []
 | .pair a b,x=>.agg (a.cells x.1++b.cells x.2)
theorem Ty.lf:∀(T:Ty) (x:T.ny),cI (T.cells x)
 | .int k,n=>⟨trivial,trivial⟩
 | .bool,b=>⟨trivial,trivial⟩
 | .str,s=>⟨trivial,trivial⟩
 | .sl e,xs=>⟨λx=>e.lf x,trivial⟩
 | .unit,_=>trivial
 | .pair a b,x=>QV (a.lf x.1) (b.lf x.2)
def qW (T:Ty):Nat->Ty
 | 0=>.unit
 | n+1=>.pair T (qW T n)
def C8 (r:TypeId->Option Ty) (c:TypeId->Nat):Nat->List Field->Option Ty
 | _,[]=>some .unit
 | o,f :: fs =>
  match r f.type with
  | some T=>match Nat.beq f.offset o&&Nat.beq (c f.type) T.size with
   | true=>match C8 r c (o+T.size) fs with
    | some U=>some (.pair T U)
    | none=>none
   | false=>none
  | none=>none
def vA (P:Program):Nat->TypeId->Option Ty
 | 0,_=>none
 | n+1,t=>match P.underlying t with
  | some (.int k)=>some (.int k)
  | some .bool=>some .bool
  | some .string=>some .str
  | some (.slice e)=>match vA P n e with
   | some T=>match Nat.beq (P.cellsOf e) T.size&&Nat.blt 0 T.size with
    | true=>some (.sl T)
    | false=>none
   | none=>none
  | some (.struct fs)=>match C8 (vA P n) P.cellsOf 0 fs.toList with
   | some T=>match Nat.beq (P.cellsOf t) T.size with
    | true=>some T
    | false=>none
   | none=>none
  | some (.array m e)=>match vA P n e with
   | some T=>match Nat.beq (P.cellsOf e) T.size&&Nat.beq (P.cellsOf t) (m*T.size) with
    | true=>some (qW T m)
    | false=>none
   | none=>none
  | _=>none
theorem XX {α:Type} {p:Nat->α->Prop}:∀(n:Nat),(∀i,i < n->∃y,p i y)->∃ys:List α,ys.length=n/\∀i y,ys[i]?=some y->p i y
 | 0,_=>⟨[],rfl,λi y h=>by simp at h⟩
 | n+1,h=>by
  obtain ⟨ys,h1,h2⟩:=XX n λi hi=>h i (by omega)
  obtain ⟨y,hy⟩:=h n (by omega)
  refine ⟨ys++[y],by simp [h1],λi z hz=>?_⟩
  rw [xE] at hz
  split at hz
  ·exact h2 i z hz
  ·rename_i hi
   have:i=n:=by
    have:=(bt.1 hz).1
    simp at this;omega
   subst this
   simp [h1] at hz
   subst hz;exact hy
section
variable {H:Type} {enc:TypeId × Value->H} {P:Program} {W:World} {base:Nat} {sp:Nat->Bool} {held:Bool}
def TU (enc:TypeId × Value->H) (P:Program) (W:World) (base:Nat) (sp:Nat->Bool) (held:Bool) (m:Nat) (t:TypeId) (T:Ty):Prop :=
 ∀cs x,DataW.trod enc P W base sp held m t cs=some x->∃y:T.ny,T.wf y/\cs.length=T.size/\dJ (je W) (T.cells y) cs
theorem XY {n m:Nat} (ih:∀t T,vA P n t=some T->TU enc P W base sp held m t T):∀(fs:List Field) (o:Nat) (T:Ty) (cs:List Value) (xs:List (DataW H × List MemPlace)),
  C8 (vA P n) P.cellsOf o fs=some T->fs.mapM (λf=>DataW.trod enc P W base sp held m f.type ((cs.drop f.offset).take (P.cellsOf f.type)))=some xs->cs.length=o+T.size ->
  ∃y:T.ny,T.wf y/\dJ (je W) (T.cells y) (cs.drop o)
 | [],o,T,cs,xs,h,_,hl=>by
  simp [C8] at h;subst h
  refine ⟨(),trivial,?_⟩
  have:cs.drop o=[]:=by simp;simp [Ty.size] at hl;omega
  rw [this];simp [Ty.cells,aQ]
 | f :: fs,o,T,cs,xs,h,hm,hl=>by
  unfold C8 at h
  split at h<;>try (cases h;done)
  rename_i T1 h1
  split at h<;>try (cases h;done)
  rename_i h2
  split at h<;>try (cases h;done)
  rename_i U h3
  simp at h;subst h
  simp only [cQ,OU] at h2
  rw [IX] at hm
  simp only [bind,Rg,pure,rI] at hm
  obtain ⟨a,ha,as,has,rfl⟩:=hm
  rw [h2.1,h2.2] at ha
  obtain ⟨y,jB,mH,B3⟩:=ih _ _ h1 _ _ ha
  simp only [Ty.size] at hl
  obtain ⟨z,BR,tg⟩:=XY ih fs (o+T1.size) U cs as h3 has (by omega)
  refine ⟨(y,z),⟨jB,BR⟩,?_⟩
  have e:cs.drop o=(cs.drop o).take T1.size++cs.drop (o+T1.size):=by rw [<-List.drop_drop,List.take_append_drop]
  rw [e]
  exact iP B3 tg
theorem Zl {m c:Nat} {e:TypeId} {T:Ty} (ih:TU enc P W base sp held m e T) (hc:c=T.size):∀(k o:Nat) (cs:List Value) (xs:List (DataW H × List MemPlace)),
  (List.range' o k).mapM (λi=>DataW.trod enc P W base sp held m e ((cs.drop (i*c)).take c))=some xs->cs.length=(o+k)*c ->
  ∃y:(qW T k).ny,(qW T k).wf y/\dJ (je W) ((qW T k).cells y) (cs.drop (o*c))
 | 0,o,cs,xs,_,hl=>by
  refine ⟨(),trivial,?_⟩
  have:cs.drop (o*c)=[]:=by simp;rw [hl];simp
  rw [this];simp [qW,Ty.cells,aQ]
 | k+1,o,cs,xs,hm,hl=>by
  rw [List.range'_succ,IX] at hm
  simp only [bind,Rg,pure,rI] at hm
  obtain ⟨a,ha,as,has,rfl⟩:=hm
  obtain ⟨y,jB,mH,B3⟩:=ih _ _ ha
  obtain ⟨z,BR,tg⟩:=Zl ih hc k (o+1) cs as has (by rw [hl];congr 1;omega)
  refine ⟨(y,z),⟨jB,BR⟩,?_⟩
  have e:cs.drop (o*c)=(cs.drop (o*c)).take c++cs.drop ((o+1)*c):=by
   rw [show (o+1)*c=o*c+c by rw [Nat.add_mul];omega,<-List.drop_drop,List.take_append_drop]
  rw [e]
  exact iP B3 tg
theorem Ty.aap (T:Ty):∀k,(qW T k).size=k*T.size
 | 0=>by simp [qW,Ty.size]
 | k+1=>by simp only [qW,Ty.size];rw [Ty.aap T k,Nat.add_mul];omega
theorem opens:∀(n:Nat) (t:TypeId) (T:Ty),vA P n t=some T->∀m,TU enc P W base sp held m t T
 | 0,t,T,h,_=>by cases h
 | n+1,t,T,h,0=>by
  intro cs x hx
  simp [DataW.trod] at hx
 | n+1,t,T,h,m+1=>by
  intro cs x hx
  unfold vA at h
  split at h
  ·rename_i k hk
   simp at h;subst h
   obtain ⟨z,rfl,_,hw⟩:=DataW.trod_int hk hx
   exact ⟨z,by simpa [Ty.wf,Lit.wf] using hw,rfl,by simp [Ty.cells,aQ,rel]⟩
  ·rename_i hk
   simp at h;subst h
   obtain ⟨z,rfl,_⟩:=DataW.trod_bool hk hx
   exact ⟨z,trivial,rfl,by simp [Ty.cells,aQ,rel]⟩
  ·rename_i hk
   simp at h;subst h
   obtain ⟨z,rfl,_,hw⟩:=DataW.trod_string hk hx
   exact ⟨z,hw,rfl,by simp [Ty.cells,aQ,rel]⟩
  ·rename_i e hk
   split at h<;>try (cases h;done)
   rename_i E hE
   split at h<;>try (cases h;done)
   rename_i hc
   simp at h;subst h
   simp only [cQ,OU,FQ] at hc
   obtain ⟨hc,kY⟩:=hc
   have lf:∀x:E.ny,cI (E.cells x):=E.lf
   rcases DataW.trod_slice hk hx with ⟨rfl,_⟩|⟨a,len,cap,elems,rest,k,_,rfl,_,hb,hle,hm,hlen,V7,_⟩
   ·refine ⟨[],⟨cg _,by simp⟩,rfl,?_⟩
    simp only [Ty.cells,aQ,rel]
    exact ⟨_,[],rfl,⟨⟨none,0,rfl,by simp,.inl trivial⟩,lf⟩,rfl⟩
   ·obtain ⟨ys,jB,mH⟩:=XX (p:=λi (y:E.ny)=>E.wf y/\∃us,W.cells? base (a.add (i*E.size)) E.size=some us/\us.length=E.size/\dJ (je W) (E.cells y) us) len (λi hi=>by
     have h1:=V7 i hi
     rw [eI (by omega),hc] at h1
     rw [Rg] at h1
     obtain ⟨us,h2,h3⟩:=h1
     obtain ⟨y,h4,h5,h6⟩:=opens n e E hE k us _ h3
     exact ⟨y,h4,us,h2,h5,h6⟩)
    refine ⟨ys,⟨by omega,λx hx=>?_⟩,rfl,?_⟩
    ·obtain ⟨i,hi⟩:=nG hx
     exact (mH i x hi).1
    ·simp only [Ty.cells,aQ,rel]
     refine ⟨_,[],rfl,⟨⟨some a,cap,by rw [jB],by rw [jB];exact hle,?_⟩,lf⟩,rfl⟩
     by_cases hz:ys=[]
     ·exact .inl hz
     right
     have h0:0 < ys.length:=by cases ys with|nil=>exact absurd rfl hz|cons=>simp
     have gB:a.spot=none:=by
      obtain ⟨_,us,h1,h2,_⟩:=mH 0 _ (eI h0)
      have h3:=(World.cells?_some h1).2.2 0 kY
      rw [Nat.zero_mul] at h3
      have nX:W.cell? ((a.add 0).add 0)=some us[0]:=by rw [h3,eI (by omega)]
      unfold World.cell? at nX
      split at nX
      ·cases a with
       | mk b o s=>cases s<;>simp_all [Addr.add]
      ·cases nX
     refine ⟨a,rfl,gB,λj x hx=>?_⟩
     obtain ⟨_,us,h1,h2,h3⟩:=mH j x hx
     refine ⟨us,h2,h3,λi u hu=>?_⟩
     have hi:i < E.size:=by rw [<-h2];exact (bt.1 hu).1
     have h4:=(World.cells?_some h1).2.2 i hi
     rw [hu,qa _ gB,rL] at h4
     exact ajd h4
  ·rename_i fs hk
   split at h<;>try (cases h;done)
   rename_i U hU
   split at h<;>try (cases h;done)
   rename_i hc
   simp at h;subst h
   simp only [OU] at hc
   rw [DataW.trod_step] at hx
   unfold DataW.trodStep at hx
   simp only [hk] at hx
   split at hx<;>try (cases hx;done)
   rename_i hl
   simp only [II] at hx
   obtain ⟨xs,hx,_⟩:=hx
   obtain ⟨y,h1,h2⟩:=XY (λt T hT=>opens n t T hT m) fs.toList 0 U cs xs hU hx (by omega)
   exact ⟨y,h1,by omega,by simpa using h2⟩
  ·rename_i k e hk
   split at h<;>try (cases h;done)
   rename_i E hE
   split at h<;>try (cases h;done)
   rename_i hc
   simp at h;subst h
   simp only [cQ,OU] at hc
   rw [DataW.trod_step] at hx
   unfold DataW.trodStep at hx
   simp only [hk] at hx
   split at hx<;>try (cases hx;done)
   rename_i hl
   simp only [II] at hx
   obtain ⟨xs,hx,_⟩:=hx
   rw [hc.1,List.range_eq_range'] at hx
   obtain ⟨y,h1,h2⟩:=Zl (opens n e E hE m) rfl k 0 cs xs hx (by rw [hl,hc.2];simp)
   exact ⟨y,h1,by rw [Ty.aap];omega,by simpa using h2⟩
  ·cases h
theorem SU {n:Nat} {t:TypeId} {T:Ty} (hT:vA P n t=some T) {r:Reach} {b0:Nat} {v:Value} {d:DataW H} {ps:List MemPlace} (uk:Value.okWide P W r b0 t v) (hd:DataW.Trod enc P W base sp held t v d ps) :
  ∃y:T.ny,T.wf y/\dJ (je W) [T.arg y] [v]:=by
 obtain ⟨fuel,hf⟩:=hd
 obtain ⟨y,h1,h2,h3⟩:=opens n t T hT fuel _ _ hf
 refine ⟨y,h1,?_⟩
 have agg:∀cs:Array Value,v=.agg cs->dJ (je W) [SV.agg (T.cells y)] [v]:=by
  rintro cs rfl
  simp only [aQ,rel]
  exact ⟨_,[],rfl,⟨cs.toList,rfl,h3⟩,rfl⟩
 have one:(∀cs:Array Value,v≠.agg cs)->dJ (je W) (T.cells y) [v]:=by
  intro hn
  have:v.cells.toList=[v]:=by
   cases v<;>try rfl
   rename_i cs;exact absurd rfl (hn cs)
  rw [this] at h3;exact h3
 cases n with
 | zero=>cases hT
 | succ n =>
  unfold vA at hT
  split at hT
  ·rename_i k hk
   simp at hT;subst hT
   obtain ⟨z,rfl⟩:=okWide_int hk uk
   exact one (by simp)
  ·rename_i hk
   simp at hT;subst hT
   obtain ⟨z,rfl⟩:=okWide_bool hk uk
   exact one (by simp)
  ·rename_i hk
   simp at hT;subst hT
   obtain ⟨z,rfl⟩:=okWide_string hk uk
   exact one (by simp)
  ·rename_i e hk
   split at hT<;>try (cases hT;done)
   split at hT<;>try (cases hT;done)
   simp at hT;subst hT
   obtain ⟨a,len,cap,rfl⟩:=okWide_slice hk uk
   exact one (by simp)
  ·rename_i fs hk
   have UE:∃cs,v=.agg cs:=by
    simp only [Value.okWide,hk] at uk
    obtain ⟨cs,h,_⟩:=uk
    exact ⟨cs,h⟩
   obtain ⟨cs,fS⟩:=UE
   split at hT<;>try (cases hT;done)
   rename_i U hU
   split at hT<;>try (cases hT;done)
   simp at hT;subst hT
   have:U.arg y=.agg (U.cells y):=by
    generalize fs.toList=l at hU
    cases l with
    | nil=>simp [C8] at hU;subst hU;rfl
    | cons f r =>
     unfold C8 at hU
     split at hU<;>try (cases hU;done)
     split at hU<;>try (cases hU;done)
     split at hU<;>try (cases hU;done)
     simp at hU;subst hU;rfl
   rw [this]
   exact agg cs fS
  ·rename_i k e hk
   have UE:∃cs,v=.agg cs:=by
    simp only [Value.okWide,hk] at uk
    obtain ⟨cs,h,_⟩:=uk
    exact ⟨cs,h⟩
   obtain ⟨cs,fS⟩:=UE
   split at hT<;>try (cases hT;done)
   split at hT<;>try (cases hT;done)
   simp at hT;subst hT
   rename_i E _ _ _
   have:(qW E k).arg y=.agg ((qW E k).cells y):=by
    cases k<;>rfl
   rw [this]
   exact agg cs fS
  ·cases hT
end
end Go.Vc
