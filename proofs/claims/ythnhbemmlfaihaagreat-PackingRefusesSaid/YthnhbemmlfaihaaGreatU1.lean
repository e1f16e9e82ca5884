import Derived.Test.YthnhbemmlfaihaaGreatU0
import Derived.Maps.AppendAt
set_option linter.unusedVariables false
set_option linter.unusedSimpArgs false
set_option maxRecDepth 10000
set_option maxHeartbeats 64000000
namespace Go.Vc
open Go
def fT (P:Program) (f:Fr) (s:St) (o:Oper) (a:Act) (w:World) (R:SV->List (Nat × Slot)->Prop):Prop :=
 ∃x u,R x u/\∀(K:Act->World->Prop) (Q:Exit->Act->World->Prop),
  (∀η' H' w' v,Den f (s.gn o.dst x u) η' H' (a.put o.dst v) w'->K (a.put o.dst v) w')->o.wp P a w K Q
section
variable {P:Program} {X:Ctx} {f:Fr} {s:St} {η:Nat->Value} {H:bO} {a:Act} {w:World} {o:Oper} {R:SV->List (Nat × Slot)->Prop}
theorem Au (D:Den f s η H a w) {x:SV} {v:Value} {w':World} (hr:(execOp a.eval o).run P w=.ok (.value v) w') (g:w.grownBy w' none)
  (hx:rel η (bd s.b) H x v) (h:R x []):fT P f s o a w R :=
 ⟨x,[],h,λK Q hk=>by
  unfold Oper.wp
  rw [hr]
  exact hk η H w' v ((D.grown g).put o.dst hx)⟩
theorem eJ (D:Den f s η H a w) {x:SV} {v:Value} (hr:∀w,(execOp a.eval o).run P w=.ok (.value v) w)
 (hx:rel η (bd s.b) H x v) (h:R x []):fT P f s o a w R:=Au D (hr w) (ry w none) hx h
theorem Den.Ek (D:Den f s η H a w) (t:Nat):rel η (bd s.b) H ((s.t[t]?).getD .any) (a.tmps.getD t undef):=by
 cases h:s.t[t]? with
 | none=>simp [rel]
 | some x =>
  obtain ⟨u,h1,h2⟩:=uV D.t t x h
  have h3:a.tmps[t]?=some u:=by simpa using h1
  rw [JM,h3]
  exact h2
theorem TQ (η:Nat->Value) (q:Nat->Live) (H:bO) (v:Value):rel η q H (l6 v) v:=by
 unfold l6
 split<;>simp [rel]
theorem BR (η:Nat->Value) (q:Nat->Live) (H:bO):∀(vs:List Value),a9 η q H (vs.map l6) vs
 | []=>by simp [a9]
 | v :: r=>by simp only [mw,a9];exact ⟨v,r,rfl,TQ η q H v,BR η q H r⟩
theorem OK (η:Nat->Value) (q:Nat->Live) (H:bO) (v:Value):rel η q H (Ba v) v:=by
 unfold Ba
 split
 ·rename_i cs
  simp only [rel]
  exact ⟨cs.toList,by simp,BR η q H _⟩
 ·exact TQ η q H v
theorem Den.ev (D:Den f s η H a w) (x:Operand):rel η (bd s.b) H (ev s x) (a.eval x):=by
 cases x with
 | tmp t=>exact D.Ek t
 | const v=>exact OK η _ H v
 | global g=>simp [Vc.ev,Act.eval,rel]
 | func g=>simp only [Vc.ev,Act.eval,rel];exact ⟨[],[],by simp,by simp [a9],by simp [a9]⟩
theorem Den.FB (D:Den f s η H a w):∀xs:List Operand,a9 η (bd s.b) H (xs.map (Vc.ev s)) (xs.map a.eval)
 | []=>by simp [a9]
 | x :: r=>by simp only [mw,a9];exact ⟨_,_,rfl,D.ev x,D.FB r⟩
theorem alV {v:Value} (h:v.oneCell'=true):v.cells=#[v]:=by
 cases v<;>first|rfl|simp [Value.oneCell'] at h
theorem G7 {q:Nat->Live}:∀{xs:List SV} {vs:List Value},xs.all SV.one=true->a9 η q H xs vs->∀v∈vs,v.oneCell'=true
 | [],vs,_,h,v,hv=>by simp only [a9] at h;subst h;simp at hv
 | x :: r,vs,ho,h,v,hv=>by
  simp only [a9] at h
  obtain ⟨u,us,rfl,h1,h2⟩:=h
  simp only [DY,eh] at ho
  rcases eB.1 hv with rfl|hv
  ·exact AA ho.1 h1
  ·exact G7 ho.2 h2 v hv
theorem TR {q:Nat->Live} {x:SV} {v:Value} {ys:List SV} (hc:x.cells?=some ys) (h:rel η q H x v) :
  a9 η q H ys v.cells.toList/\∀u∈v.cells.toList,u.oneCell'=true:=by
 unfold SV.cells? at hc
 split at hc
 ·rename_i cs
  split at hc
  ·rename_i ho
   simp at hc;subst hc
   simp only [rel] at h
   obtain ⟨vs,rfl,h2⟩:=h
   simp only [Value.cells]
   exact ⟨h2,G7 ho h2⟩
  ·cases hc
 ·split at hc
  ·rename_i ho
   simp at hc;subst hc
   have h1:=AA ho h
   rw [alV h1]
   refine ⟨by simp only [a9];exact ⟨v,[],rfl,h,rfl⟩,λu hu=>by simp at hu;subst hu;exact h1⟩
  ·cases hc
theorem O5 {q:Nat->Live} {x:SV} {v:Value} {y:Unit->Bool} (hc:x.Io=some y) (h:rel η q H x v):v=.bool (y ()):=by
 cases x<;>simp [SV.Io] at hc<;>subst hc<;>simpa [rel] using h
theorem oB {q:Nat->Live} {x:SV} {v:Value} {k:IntKind} {y:Unit->Int} (hc:x.lq=some (k,y)) (h:rel η q H x v):v=.int k (y ()):=by
 cases x<;>simp [SV.lq] at hc<;>obtain ⟨rfl,rfl⟩:=hc<;>simpa [rel] using h
theorem aej (D:Den f s η H a w) (x:Operand) (ho:o.op=.move x\/o.op=.assign x) (h:R (Vc.ev s x) []):fT P f s o a w R :=
 eJ D (v:=a.eval x) (λw=>by rcases ho with ho|ho<;>simp [execOp,ho]) (D.ev x) h
theorem apU (D:Den f s η H a w) (c x y:Operand) (ho:o.op=.pick c x y) (h:(Pz (Vc.ev s c) (Vc.ev s x) (Vc.ev s y)).K R):fT P f s o a w R:=by
 have hc:=D.ev c
 have hx:=D.ev x
 have hy:=D.ev y
 unfold Pz at h
 split at h
 ·rename_i e;rw [e] at hc;simp only [rel] at hc
  exact eJ D (v:=a.eval x) (λw=>by simp [execOp,ho,hc,asBool]) hx h
 ·rename_i e;rw [e] at hc;simp only [rel] at hc
  exact eJ D (v:=a.eval y) (λw=>by simp [execOp,ho,hc,asBool]) hy h
 ·rename_i z e;rw [e] at hc;simp only [rel] at hc
  split at h
  ·rename_i f g hf hg
   have h1:=O5 hf hx
   have h2:=O5 hg hy
   refine eJ D (v:=if z () then a.eval x else a.eval y) (λw=>by simp [execOp,ho,hc,asBool]) ?_ h
   simp only [rel]
   rw [h1,h2]
   split<;>rfl
  ·exact h.elim
 ·exact h.elim
theorem aaF {op:BinOp} {k:IntKind} {x y:Int} {v:Value} (h:∀w,(match op with
  | .add|.sub|.mul=>Op.intArith op k x y
  | .quo|.rem=>Op.intDiv op k x y
  | .and|.or|.xor|.andNot=>Op.intBits op k x y
  | _=>Op.intCmp op x y:Sem Value).run P w=.ok v w) (hs:Ei op=false) (t:TypeId) (X Y:Operand) (w:World) :
  (do eqGuard op t X Y (.int k x) (.int k y);binOp op t (.int k x) (.int k y):Sem Value).run P w=.ok v w:=by
 have:=h w
 cases op<;>simp [Ei] at hs<;>simp_all [eqGuard,binOp]
theorem anH (D:Den f s η H a w) (op:BinOp) (t t':TypeId) (x y:Operand) (ho:o.op=.binOp op t x y t') {k:IntKind} {m n:Unit->Int}
  (hs:Ei op=false) (hx:(Vc.ev s x).lq=some (k,m)) (hy:(Vc.ev s y).lq=some (k,n)) (h:(Ce op k m n).K R):fT P f s o a w R:=by
 have h1:=oB hx (D.ev x)
 have h2:=oB hy (D.ev y)
 have main:∀v X,(∀w,(match op with
  | .add|.sub|.mul=>Op.intArith op k (m ()) (n ())
  | .quo|.rem=>Op.intDiv op k (m ()) (n ())
  | .and|.or|.xor|.andNot=>Op.intBits op k (m ()) (n ())
  | _=>Op.intCmp op (m ()) (n ()):Sem Value).run P w=.ok v w)->rel η (bd s.b) H X v->R X []->fT P f s o a w R:=by
  intro v X hv hX hR
  refine eJ D (v:=v) (λw=>?_) hX hR
  have:=aaF hv hs t x y w
  simp only [execOp,ho,h1,h2,Sem.run_bind,this,Result.andThen_ok,Sem.run_pure]
 unfold Ce at h
 cases op<;>simp only [eU.K] at h<;>simp only [Ei] at hs
 case add=>exact main (.int k _) _ (λw=>rfl) (by simp only [rel]) h
 case sub=>exact main (.int k _) _ (λw=>rfl) (by simp only [rel]) h
 case mul=>exact main (.int k _) _ (λw=>rfl) (by simp only [rel]) h
 case quo=>obtain ⟨⟨h0⟩,h⟩:=h;exact main (.int k _) _ (λw=>by simp only [Op.intDiv,h0,if_false];rfl) (by simp only [rel]) h
 case rem=>obtain ⟨⟨h0⟩,h⟩:=h;exact main (.int k _) _ (λw=>by simp only [Op.intDiv,h0,if_false];rfl) (by simp only [rel]) h
 case and=>exact main (.int k _) _ (λw=>rfl) (by simp only [rel,jd]) h
 case or=>exact main (.int k _) _ (λw=>rfl) (by simp only [rel,jd]) h
 case xor=>exact main (.int k _) _ (λw=>rfl) (by simp only [rel,jd]) h
 case andNot=>exact main (.int k _) _ (λw=>rfl) (by simp only [rel,jd]) h
 case eql=>exact main (.bool _) _ (λw=>rfl) (by simp only [rel,aV]) h
 case neq=>exact main (.bool _) _ (λw=>rfl) (by simp only [rel,aV,bne]) h
 case lss=>exact main (.bool _) _ (λw=>rfl) (by simp only [rel,aU]) h
 case leq=>exact main (.bool _) _ (λw=>rfl) (by simp only [rel,cV]) h
 case gtr=>exact main (.bool _) _ (λw=>rfl) (by simp only [rel,aU]) h
 case geq=>exact main (.bool _) _ (λw=>rfl) (by simp only [rel,cV]) h
 all_goals first|exact h.elim|cases hs
theorem anI {op:BinOp} {k:IntKind} {m n:Int} (h:(Hi op k m n).K R) :
  ∃X,R X []/\Ei op=false/\∀(v:Value) (η:Nat->Value) (q:Nat->Live) (H:bO) (Y:SV),
   (Ce op k (λ_=>m) (λ_=>n))=.pure Y []->rel η q H Y v->rel η q H X v:=by
 cases op<;>simp only [Hi,eU.K] at h
 case add|sub|mul|eql|neq|lss|leq|gtr|geq =>
  refine ⟨_,h,rfl,λv η q H Y hY hr=>?_⟩
  simp only [Ce,eU.pure.injEq,and_true] at hY
  subst hY
  simpa only [rel] using hr
 all_goals exact h.elim
theorem asV (D:Den f s η H a w) (op:UnOp) (t:TypeId) (x:Operand) (ho:o.op=.unOp op t x) (h:(Q9 op (Vc.ev s x)).K R):fT P f s o a w R:=by
 have hx:=D.ev x
 unfold Q9 at h
 split at h<;>first|exact h.elim|skip
 all_goals
  rename_i e
  rw [e] at hx
  simp only [rel] at hx
 case h_3 =>
  rename_i d p _
  obtain ⟨c,hc,hp⟩:=hx
  refine eJ D (v:=.bool (!c)) (λw=>by simp [execOp,ho,hc,Op.unary]) (by simp only [rel];exact ⟨!c,rfl,λe=>hp (by cases c<;>cases d<;>simp_all)⟩) h
 case h_6 =>
  split at h<;>first|exact h.elim|skip
  rename_i hs
  exact eJ D (v:=.int _ _) (λw=>by simp only [execOp,ho,hx,Op.unary,hs,if_true];rfl) (by simp only [rel,jd]) h
 all_goals
  refine eJ D (v:=_) (λw=>by simp [execOp,ho,hx,Op.unary,Op.intArith];rfl) (by simp [rel]) h
theorem apV (C:X.Ok P) (D:Den f s η H a w) (src dst:TypeId) (x:Operand) (ho:o.op=.convert src dst x) (h:(PA X src dst (Vc.ev s x)).K R):fT P f s o a w R:=by
 have hx:=D.ev x
 unfold PA at h
 split at h
 ·rename_i i j hi hj
  have Ii:=C.tt _ _ hi
  have Ij:=C.tt _ _ hj
  have XV:∃d,P.underlying src=some d:=by
   have:=Ii.desc
   split at this
   all_goals first
    | exact ⟨_,this⟩
    | (obtain ⟨d,h,_⟩:=this;exact ⟨_,h⟩)
  obtain ⟨d,hd⟩:=XV
  have C2:=Ij.desc
  split at h<;>first|exact h.elim|skip
  ·rename_i k k' n e1 e2
   rw [e1] at C2;rw [e2] at hx
   simp only [rel] at hx
   refine eJ D (v:=.int k (k.wrap n)) (λw=>by simp [execOp,ho,hx,convert,run_underlying hd,run_underlying C2,Conv.intToInt]) (by simp [rel]) h
  ·rename_i k k' n e1 e2
   rw [e1] at C2;rw [e2] at hx
   simp only [rel] at hx
   refine eJ D (v:=.int k (k.wrap (n ()))) (λw=>by simp [execOp,ho,hx,convert,run_underlying hd,run_underlying C2,Conv.intToInt]) (by simp [rel]) h
  ·rename_i y e1 e2
   rw [e1] at C2;rw [e2] at hx
   simp only [rel] at hx
   refine eJ D (v:=.string (y ())) (λw=>by simp [execOp,ho,hx,convert,run_underlying hd,run_underlying C2]) (by simp [rel]) h
 ·exact h.elim
end
section
variable {P:Program} {X:Ctx} {f:Fr} {s:St} {η:Nat->Value} {H:bO} {a:Act} {w:World} {o:Oper} {R:SV->List (Nat × Slot)->Prop}
theorem ac4 {q:Nat->Live} {x y:SV} {u v:Value} {g:Unit->Bool} (he:Qj x y=some g) (hx:rel η q H x u) (hy:rel η q H y v) :
  Cm u v=g ()/\v7 u v=true:=by
 unfold Qj at he
 split at he
 case h_10=>cases he
 all_goals
  simp only [rel] at hx hy
  subst hx
  subst hy
 case h_1|h_2|h_3|h_4=>simp at he;subst he;exact ⟨rfl,rfl⟩
 case h_5|h_6|h_7|h_8 =>
  split at he
  ·rename_i hk;subst hk;simp at he;subst he;exact ⟨rfl,by simp [v7]⟩
  ·cases he
 case h_9=>simp at he;subst he;exact ⟨rfl,rfl⟩
theorem TS {q:Nat->Live}:∀{xs ys:List SV} {us vs:List Value} {g:Unit->Bool},Co xs ys=some g->a9 η q H xs us->a9 η q H ys vs ->
  tT us vs=g ()/\rB us vs=true
 | [],[],us,vs,g,he,hx,hy=>by
  simp only [a9] at hx hy;subst hx;subst hy;simp [Co] at he;subst he;exact ⟨rfl,rfl⟩
 | x :: xs,y :: ys,us,vs,g,he,hx,hy=>by
  simp only [a9] at hx hy
  obtain ⟨u,us,rfl,h1,h2⟩:=hx
  obtain ⟨v,vs,rfl,h3,h4⟩:=hy
  simp only [Co] at he
  split at he
  ·rename_i f g' hf hg
   simp at he;subst he
   have a1:=ac4 hf h1 h3
   have a2:=TS hg h2 h4
   simp [tT,rB,a1,a2]
  ·cases he
 | [],y :: ys,us,vs,g,he,hx,hy=>by simp [Co] at he
 | x :: xs,[],us,vs,g,he,hx,hy=>by simp [Co] at he
theorem run_equalIn_bool {t:TypeId} (hd:P.underlying t=some .bool) (d:Nat) (x y:Bool) (w:World) :
  (Op.equalIn (d+1) t (.bool x) (.bool y)).run P w=.ok (x == y) w:=by
 simp [Op.equalIn,run_underlying hd]
theorem run_equal_bool {t:TypeId} (hd:P.underlying t=some .bool) (x y:Bool) (w:World) :
 (Op.equal t (.bool x) (.bool y)).run P w=.ok (x == y) w:=run_equalIn_bool hd 9999 x y w
theorem amU {q:Nat->Live} {x y:SV} {u v:Value} {p:Unit->Prop} (hp:UU x y=some p) (hx:rel η q H x u) (hy:rel η q H y v) :
  ∃a n c b m d,u=.slice a n c/\v=.slice b m d/\(a=none\/b=none)/\((a.isNone&&b.isNone)=true->p ()):=by
 have own:∀{l:Nat} {u:Value},rel η q H (.own l) u->∃a n c,u=.slice a n c:=by
  intro l u h
  simp only [rel] at h
  split at h
  ·exact h.elim
  ·exact h
  ·exact h.2
 unfold UU at hp
 split at hp<;>simp at hp
 ·subst hp
  simp only [rel] at hx hy
  obtain ⟨⟨ad,cap,h1,h2,h3⟩,_⟩:=hx
  refine ⟨_,_,_,_,_,_,h1,hy,.inr rfl,λh=>?_⟩
  rcases h3 with h3|⟨a,rfl,_⟩
  ·exact h3
  ·simp at h
 ·subst hp
  simp only [rel] at hx hy
  obtain ⟨⟨ad,cap,h1,h2,h3⟩,_⟩:=hy
  refine ⟨_,_,_,_,_,_,hx,h1,.inl rfl,λh=>?_⟩
  rcases h3 with h3|⟨a,rfl,_⟩
  ·exact h3
  ·simp at h
 ·subst hp
  obtain ⟨a,n,c,h⟩:=own hx
  simp only [rel] at hy
  exact ⟨_,_,_,_,_,_,h,hy,.inr rfl,λ_=>trivial⟩
 ·subst hp
  obtain ⟨a,n,c,h⟩:=own hy
  simp only [rel] at hx
  exact ⟨_,_,_,_,_,_,hx,h,.inl rfl,λ_=>trivial⟩
theorem alI {t e:TypeId} (hd:P.underlying t=some (.slice e)) (k:Nat) (a b:Option Addr) (n c m d:Nat) (j7:a=none\/b=none) (w:World) :
  (Op.equalIn (k+1) t (.slice a n c) (.slice b m d)).run P w=.ok (a.isNone&&b.isNone) w:=by
 rcases j7 with rfl|rfl
 ·simp [Op.equalIn,run_underlying hd]
 ·cases a<;>simp [Op.equalIn,run_underlying hd]
theorem SA {t e:TypeId} (hd:P.underlying t=some (.slice e)) (a b:Option Addr) (n c m d:Nat) (j7:a=none\/b=none) (w:World) :
 (Op.equal t (.slice a n c) (.slice b m d)).run P w=.ok (a.isNone&&b.isNone) w:=alI hd 9999 a b n c m d j7 w
theorem alL {t k e:TypeId} (hd:P.underlying t=some (.map k e)) (d:Nat) (a b:Option Nat) (j7:a=none\/b=none) (w:World) :
  (Op.equalIn (d+1) t (.map a) (.map b)).run P w=.ok (a.isNone&&b.isNone) w:=by
 unfold Op.equalIn
 simp only [Sem.run_bind,run_underlying hd,Result.andThen_ok]
 rcases j7 with rfl|rfl
 ·simp
 ·cases a<;>simp
theorem ZY {t k e:TypeId} (hd:P.underlying t=some (.map k e)) (a b:Option Nat) (j7:a=none\/b=none) (w:World) :
 (Op.equal t (.map a) (.map b)).run P w=.ok (a.isNone&&b.isNone) w:=alL hd 9999 a b j7 w
theorem aa2 {q:Nat->Live} {x y:SV} {v u:Value} {d:Bool} {p:Unit->Prop} (h:UW x y=some (d,p)) (hx:rel η q H x v) (hy:rel η q H y u) (hp:p ()) :
  ∃a b:Option Nat,v=.map a/\u=.map b/\(a=none\/b=none)/\d=(a.isNone&&b.isNone):=by
 unfold UW at h
 split at h<;>simp at h
 ·obtain ⟨rfl,rfl⟩:=h
  simp only [rel] at hx hy
  exact ⟨none,none,hx.trans hp.1,hy.trans hp.2,.inl rfl,rfl⟩
 ·obtain ⟨rfl,rfl⟩:=h
  simp only [rel] at hx hy
  obtain ⟨j8,n,hn⟩:=hp
  rcases hx.1 with ⟨_,h2⟩|⟨r,_,_,h1,_⟩
  ·exact absurd (h2 n) hn
  ·exact ⟨some r,none,h1,hy.trans j8,.inr rfl,rfl⟩
 ·obtain ⟨rfl,rfl⟩:=h
  simp only [rel] at hx hy
  obtain ⟨j8,n,hn⟩:=hp
  rcases hy.1 with ⟨_,h2⟩|⟨r,_,_,h1,_⟩
  ·exact absurd (h2 n) hn
  ·exact ⟨none,some r,hx.trans j8,h1,.inl rfl,rfl⟩
theorem are (C:X.Ok P) (D:Den f s η H a w) (op:BinOp) (t t':TypeId) (x y:Operand) (ho:o.op=.binOp op t x y t')
  (h:(Qk X op t (Vc.ev s x) (Vc.ev s y)).K R):fT P f s o a w R:=by
 have hx:=D.ev x
 have hy:=D.ev y
 unfold Qk at h
 split at h
 ·rename_i hs
  split at h
  ·rename_i k m k' n h1 h2
   obtain ⟨⟨h0⟩,h⟩:=h
   have e1:=oB h1 hx
   have e2:=oB h2 hy
   have hn:¬n () < 0:=by omega
   cases op<;>simp only [Ei] at hs<;>first|cases hs|skip
   ·refine eJ D (v:=.int k (k.wrap (m ()*2^min (n ()).toNat k.bits))) (λw=>?_) (by simp only [rel]) h
    simp [execOp,ho,e1,e2,eqGuard,binOp,Op.shift,hn]
   ·refine eJ D (v:=.int k ((m ()).fdiv (2^min (n ()).toNat k.bits))) (λw=>?_) (by simp only [rel]) h
    simp [execOp,ho,e1,e2,eqGuard,binOp,Op.shift,hn]
  ·exact h.elim
 ·rename_i hs
  split at h
  ·rename_i k m k' n hl ex ey
   split at h
   ·rename_i hk
    subst hk
    obtain ⟨Y,hR,_,hY⟩:=anI h
    have hp:∃Z,Ce op k (λ_=>m) (λ_=>n)=.pure Z []:=by
     cases op<;>simp only [Hi,eU.K] at h<;>first|exact h.elim|exact ⟨_,rfl⟩
    obtain ⟨Z,hZ⟩:=hp
    have e1:a.eval x=.int k m:=by rw [ex] at hx;simpa only [rel] using hx
    have e2:a.eval y=.int k n:=by rw [ey] at hy;simpa only [rel] using hy
    have main:∀v,(∀w,(match op with
      | .add|.sub|.mul=>Op.intArith op k m n
      | .quo|.rem=>Op.intDiv op k m n
      | .and|.or|.xor|.andNot=>Op.intBits op k m n
      | _=>Op.intCmp op m n:Sem Value).run P w=.ok v w)->rel η (bd s.b) H Z v->fT P f s o a w R:=by
     intro v hv hr
     refine eJ D (v:=v) (λw=>?_) (hY v η _ H Z hZ hr) hR
     have:=aaF hv hs t x y w
     simp only [execOp,ho,e1,e2,Sem.run_bind,this,Result.andThen_ok,Sem.run_pure]
    cases op<;>simp only [Hi,eU.K] at h<;>first|exact h.elim|skip
    all_goals
     simp only [Ce,eU.pure.injEq,and_true] at hZ
     subst hZ
    ·exact main (.int k _) (λw=>rfl) (by simp only [rel])
    ·exact main (.int k _) (λw=>rfl) (by simp only [rel])
    ·exact main (.int k _) (λw=>rfl) (by simp only [rel])
    ·exact main (.bool _) (λw=>rfl) (by simp only [rel,aV])
    ·exact main (.bool _) (λw=>rfl) (by simp only [rel,aV,bne])
    ·exact main (.bool _) (λw=>rfl) (by simp only [rel,aU])
    ·exact main (.bool _) (λw=>rfl) (by simp only [rel,cV])
    ·exact main (.bool _) (λw=>rfl) (by simp only [rel,aU])
    ·exact main (.bool _) (λw=>rfl) (by simp only [rel,cV])
   ·exact h.elim
  ·split at h
   ·rename_i k m k' n h1 h2
    split at h
    ·rename_i hk
     subst hk
     exact anH D op t t' x y ho hs h1 h2 h
    ·exact h.elim
   ·split at h
    ·rename_i m n e1 e2
     rw [e1] at hx;rw [e2] at hy
     simp only [rel] at hx hy
     split at h
     ·obtain ⟨⟨h0⟩,h⟩:=h
      have h3:¬(9223372036854775807 < ((m ()).size:Int)+((n ()).size:Int)):=by omega
      refine eJ D (v:=.string (m ()++n ())) (λw=>?_) (by simp only [rel]) h
      simp [execOp,ho,hx,hy,eqGuard,binOp,Op.stringOp,IntKind.max,IntKind.signed,IntKind.bits,h3]
     all_goals first|exact h.elim|skip
     ·refine eJ D (v:=.bool _) (λw=>?_) (by simp only [rel];rfl) h
      simp [execOp,ho,hx,hy,eqGuard,binOp,Op.stringOp,y5,yO]
     ·refine eJ D (v:=.bool _) (λw=>?_) (by simp only [rel];rfl) h
      simp [execOp,ho,hx,hy,eqGuard,binOp,Op.stringOp,y5,yO]
     ·refine eJ D (v:=.bool _) (λw=>?_) (by simp only [rel];rfl) h
      simp [execOp,ho,hx,hy,eqGuard,binOp,Op.stringOp,y5,yO]
     ·refine eJ D (v:=.bool _) (λw=>?_) (by simp only [rel];rfl) h
      simp [execOp,ho,hx,hy,eqGuard,binOp,Op.stringOp,y5,yO]
     ·refine eJ D (v:=.bool _) (λw=>?_) (by simp only [rel];rfl) h
      simp [execOp,ho,hx,hy,eqGuard,binOp,Op.stringOp,y5,yO]
     ·refine eJ D (v:=.bool _) (λw=>?_) (by simp only [rel];rfl) h
      simp [execOp,ho,hx,hy,eqGuard,binOp,Op.stringOp,y5,yO]
    ·rename_i cs ds e1 e2
     split at h
     ·rename_i i hi
      split at h
      ·rename_i hc
       simp only [eh,beq_iff_eq] at hc
       split at h
       ·rename_i g g' hg zw
        have I:=C.tt _ _ hi
        rw [e1] at hx;rw [e2] at hy
        simp only [rel] at hx hy
        obtain ⟨vs,gU,od⟩:=hx
        obtain ⟨us,gg,jj⟩:=hy
        have a1:=TS hg od jj
        have a2:=TS zw od (BR η _ H _)
        have run:=λw LX=>(I.flat hc.1.1).2 vs us w (by rw [j3 od];exact hc.1.2) (by rw [j3 jj];exact hc.2) a1.2 a2.2 LX x y
        split at h
        ·refine eJ D (v:=.bool _) (λw=>?_) (by simp only [rel];rw [<-a1.1]) h
         have:=run w .eql (.inl rfl)
         simp only [execOp,ho,gU,gg]
         rw [Sem.run_bind,this]
         simp
        ·refine eJ D (v:=.bool _) (λw=>?_) (by simp only [rel];rw [<-a1.1]) h
         have:=run w .neq (.inr rfl)
         simp only [execOp,ho,gU,gg]
         rw [Sem.run_bind,this]
         simp
        ·exact h.elim
       ·exact h.elim
      ·exact h.elim
     ·exact h.elim
    ·split at h
     ·rename_i i hi
      have I:=C.tt _ _ hi
      have hd:=I.desc
      split at h
      ·rename_i ed
       rw [ed] at hd
       split at h
       ·rename_i g m n hg hm hn
        have e1:=O5 hm hx
        have e2:=O5 hn hy
        have a1:=ac4 hg hx hy
        rw [e1,e2] at a1
        have a3:(m () == n ())=g ():=a1.1
        split at h
        ·refine eJ D (v:=.bool (g ())) (λw=>?_) (by simp only [rel]) h
         simp [execOp,ho,e1,e2,eqGuard,binOp,run_equal_bool hd,a3]
        ·refine eJ D (v:=.bool (!g ())) (λw=>?_) (by simp only [rel]) h
         simp [execOp,ho,e1,e2,eqGuard,binOp,run_equal_bool hd,a3]
        ·exact h.elim
       ·exact h.elim
      ·rename_i ek e ed
       rw [ed] at hd
       split at h
       ·rename_i d p hp
        split at h
        ·obtain ⟨⟨FC⟩,h⟩:=h
         obtain ⟨a1,b1,e1,e2,j7,rfl⟩:=aa2 hp hx hy FC
         refine eJ D (v:=.bool _) (λw=>?_) (by simp only [rel];rfl) h
         simp [execOp,ho,e1,e2,eqGuard,binOp,ZY hd a1 b1 j7]
        ·obtain ⟨⟨FC⟩,h⟩:=h
         obtain ⟨a1,b1,e1,e2,j7,rfl⟩:=aa2 hp hx hy FC
         refine eJ D (v:=.bool _) (λw=>?_) (by simp only [rel];rfl) h
         simp [execOp,ho,e1,e2,eqGuard,binOp,ZY hd a1 b1 j7]
        ·exact h.elim
       ·exact h.elim
      ·rename_i e ed
       rw [ed] at hd
       have fin:∀(u b:Option Addr) (n c m d:Nat),a.eval x=.slice u n c->a.eval y=.slice b m d->(u=none\/b=none)->∀(Y:SV) (r:Bool),(op=.eql/\r=(u.isNone&&b.isNone)\/op=.neq/\r=!(u.isNone&&b.isNone)) ->
         rel η (bd s.b) H Y (.bool r)->R Y []->fT P f s o a w R:=by
        intro u b n c m d e1 e2 Ra Y r hr hY hR
        refine eJ D (v:=.bool r) (λw=>?_) hY hR
        rcases hr with ⟨rfl,rfl⟩|⟨rfl,rfl⟩<;>simp [execOp,ho,e1,e2,eqGuard,binOp,SA hd u b n c m d Ra]
       split at h
       ·rename_i p hp
        obtain ⟨u,n,c,b,m,d,e1,e2,Ra,hq⟩:=amU hp hx hy
        split at h
        ·exact fin u b n c m d e1 e2 Ra _ _ (.inl ⟨rfl,rfl⟩) (by simp only [rel];exact ⟨_,rfl,hq⟩) h
        ·exact fin u b n c m d e1 e2 Ra _ _ (.inr ⟨rfl,rfl⟩) (by simp only [rel];exact ⟨_,rfl,λe=>hq (by simpa using e)⟩) h
        ·exact h.elim
       ·split at h
        ·rename_i e1 e2 _
         rw [e1] at hx;rw [e2] at hy
         simp only [rel] at hx hy
         exact fin _ _ _ _ _ _ hx hy (.inl rfl) _ _ (.inl ⟨rfl,rfl⟩) (by simp only [rel];rfl) h
        ·rename_i e1 e2 _
         rw [e1] at hx;rw [e2] at hy
         simp only [rel] at hx hy
         exact fin _ _ _ _ _ _ hx hy (.inl rfl) _ _ (.inr ⟨rfl,rfl⟩) (by simp only [rel];rfl) h
        ·exact h.elim
      ·exact h.elim
     ·exact h.elim
end
theorem Tv {H:bO} {w:World} (h:H.jT w) {b o:Nat} {u:Value} (hc:s5 H b o=some u):w.cell? ⟨b,o,none⟩=some u:=by
 unfold s5 at hc
 split at hc
 ·rename_i c e fz he
  simp [World.cell?,h b _ he,hc]
 ·cases hc
theorem uW (b o j:Nat):(⟨b,o,none⟩:Addr).add j=⟨b,o+j,none⟩:=by
 unfold Addr.add
 split
 ·rename_i h;subst h;simp
 ·rfl
theorem rz (a:Addr) (h:a.spot=none) (j:Nat):a.add j=⟨a.block,a.off+j,none⟩:=by
 obtain ⟨b,o,s⟩:=a
 simp at h;subst h
 exact uW b o j
section
variable {P:Program} {X:Ctx} {f:Fr} {s:St} {η:Nat->Value} {H:bO} {a:Act} {w:World} {o:Oper} {R:SV->List (Nat × Slot)->Prop}
theorem px.XV {t:TypeId} {i:TI} (I:px P t i):∃d,P.underlying t=some d/\((∃x,d=.struct x)\/(∃n e,d=.array n e)↔i.agg=true):=by
 have:=I.desc
 unfold TI.agg
 split at this
 all_goals first
  | exact ⟨_,this,by simp [*]⟩
  | (obtain ⟨fs,h,_⟩:=this;exact ⟨_,h,by simp [*]⟩)
  | (obtain ⟨d,h,h1,h2⟩:=this;exact ⟨d,h,by simp [*]⟩)
theorem Og {t:TypeId} {i:TI} (I:px P t i) (w:World):(isAgg t).run P w=.ok i.agg w:=by
 obtain ⟨d,hd,h⟩:=I.XV
 unfold isAgg
 cases hq:i.agg<;>rw [hq] at h<;>simp at h
 ·obtain ⟨h1,h2⟩:=h
  simp only [Sem.run_bind,run_underlying hd,Result.andThen_ok]
  first|rfl|(split<;>first|rfl|(exfalso;simp_all))
 ·simp only [Sem.run_bind,run_underlying hd,Result.andThen_ok]
  rcases h with ⟨x,rfl⟩|⟨n,e,rfl⟩<;>rfl
theorem run_sizeOf {t:TypeId} {i:TI} (I:px P t i) (w:World):(sizeOf t).run P w=.ok i.size w:=by
 obtain ⟨inf,h1,h2,_⟩:=I.info
 simp [sizeOf,typeInfo,h1,h2]
theorem aai {t:TypeId} {i:TI} (I:px P t i) (w:World) (b o:Nat) (vals:List Value) (hl:i.size<=vals.length)
  (hc:∀j u,vals[j]?=some u->w.cell? ⟨b,o+j,none⟩=some u) :
  (loadVar t ⟨b,o,none⟩).run P w=.ok (if i.agg then .agg (vals.take i.size).toArray else vals.getD 0 undef) w:=by
 unfold loadVar
 simp only [Sem.run_bind,Og I,Result.andThen_ok]
 cases hq:i.agg
 ·simp only [jE,if_false,run_load]
  cases vals with
  | nil=>have:=I.pos;simp at hl;omega
  | cons v r =>
   have:=hc 0 v (by simp)
   simp only [vX] at this
   simp [this]
 ·simp only [if_true,Sem.run_bind,run_sizeOf I,Result.andThen_ok]
  have:=run_loadCells_list (P:=P) (w:=w) ⟨b,o,none⟩ (vals.take i.size) (λj v hv=>by
   rw [uW]
   rw [sR] at hv
   split at hv
   ·exact hc j v hv
   ·cases hv)
  rw [lJ,yK hl] at this
  simp [this]
theorem JS {q:Nat->Live} {t:TypeId} {i:TI} (I:px P t i) {cs:List SV} {vs:List Value} {off:Nat} {x:SV} (hg:wc i cs off=some x) (h:a9 η q H cs vs) :
  i.size<=(vs.drop off).length/\rel η q H x (if i.agg then .agg ((vs.drop off).take i.size).toArray else (vs.drop off).getD 0 undef):=by
 have hl:=j3 h
 unfold wc at hg
 split at hg
 ·rename_i hle
  refine ⟨by simp;omega,?_⟩
  split at hg
  ·rename_i hq
   simp at hg;subst hg
   simp only [hq,if_true,rel]
   exact ⟨_,rfl,GR (GQ h off) i.size⟩
  ·rename_i hq
   simp only [hq,if_false,jE]
   obtain ⟨u,h1,h2⟩:=uV h off x hg
   have:(vs.drop off).getD 0 undef=u:=by simp [iE,lI,h1]
   rw [this];exact h2
 ·cases hg
theorem apW (C:X.Ok P) (D:Den f s η H a w) (t:TypeId) (x:Operand) (ho:o.op=.load t x) (h:(EH X s.b t (Vc.ev s x)).K R):fT P f s o a w R:=by
 have hx:=D.ev x
 unfold EH at h
 split at h
 ·exact h.elim
 rename_i i hi
 have I:=C.tt _ _ hi
 have fin:∀(b off:Nat) (vals:List Value) (cs:List SV) (xN:Nat) (y:SV),a.eval x=.pointer (some ⟨b,off,none⟩)->a9 η (bd s.b) H cs vals ->
   (∀j u,(vals.drop xN)[j]?=some u->w.cell? ⟨b,off+j,none⟩=some u)->wc i cs xN=some y->R y []->fT P f s o a w R:=by
  intro b off vals cs xN y hp hr hc hg hR
  obtain ⟨h1,h2⟩:=JS I hg hr
  refine Au D (v:=_) (w':=w) ?_ (ry w none) h2 hR
  simp only [execOp,ho,hp,Sem.run_bind,Instr.loadAt,Instr.sureAddr,Sem.run_pure,Result.andThen_ok,aai I w b off _ h1 hc]
 split at h
 ·rename_i l off ex
  rw [ex] at hx
  split at h
  ·rename_i e cs hs
   split at h
   ·rename_i v hv
    simp only [rel,df hs,Slot.live] at hx
    obtain ⟨bl,h1,h2⟩:=hx
    obtain ⟨me,vs,h3,h4,h5⟩:=D.sl l _ hs
    rw [h1] at h3
    simp at h3;subst h3
    refine fin bl off vs.toList cs off v h2 h5 (λj u hu=>?_) hv h
    rw [lI] at hu
    rw [cell_of_row w bl (off+j) vs e (0,0) h4]
    simpa using hu
   ·exact h.elim
  ·exact h.elim
 ·rename_i cs off ex
  rw [ex] at hx
  split at h
  ·rename_i v hv
   simp only [rel] at hx
   obtain ⟨ad,h1,vals,h2,h3⟩:=hx
   refine fin ad.block (ad.off+off) vals cs off v h1 h2 (λj u hu=>?_) hv h
   rw [lI] at hu
   have:=Tv D.hw (h3 _ u hu)
   rwa [<-Nat.add_assoc] at this
  ·exact h.elim
 ·rename_i l sz j off ex
  rw [ex] at hx
  split at h
  ·rename_i T e lu c xs hs
   split at h
   ·rename_i eb
    subst eb
    obtain ⟨y,⟨hy,hg⟩,hR⟩:=h
    simp only [rel,df hs,Slot.live] at hx
    obtain ⟨bl,n,cap,h1,h2⟩:=hx
    obtain ⟨vals,p9,h4,h5,mf⟩:=D.sl l _ hs
    have h3:=p9.pos (show 0 < (xs ()).length by have:=(bW.1 hy).1;omega)
    have h6:=DQ h5 h4 (j ()) y hy
    have hc:=h3.cells (g:=bl) (by rw [h1];rfl)
    obtain ⟨z,hz⟩:=uT.1 hg
    simp only [hz,pe] at hR
    refine fin bl (j ()*sz+off) _ (c y) off z h2 (eC.up (bO.le.refl H) h6) (λk u hu=>?_) hz hR
    rw [lI,sR] at hu
    split at hu
    ·rw [lI] at hu
     have:=hc _ u hu
     rw [uW] at this
     simpa [Nat.add_assoc] using this
    ·cases hu
   ·exact h.elim
  ·exact h.elim
 ·exact h.elim
theorem ZU:∀(ys cs:List SV) (off:Nat),(sW cs off ys).length=cs.length
 | [],cs,off=>rfl
 | y :: ys,cs,off=>by simp [sW,ZU ys]
theorem Nx {q:Nat->Live}:∀{ys:List SV} {us:List Value} {cs:List SV} {vs:List Value} {off:Nat},a9 η q H ys us->a9 η q H cs vs->off+ys.length<=cs.length ->
  a9 η q H (sW cs off ys) (vs.take off++us++vs.drop (off+us.length))
 | [],us,cs,vs,off,hy,hc,hl=>by
  simp only [a9] at hy;subst hy;simpa [sW] using hc
 | y :: ys,us,cs,vs,off,hy,hc,hl=>by
  simp only [a9] at hy
  obtain ⟨u,us,rfl,h1,h2⟩:=hy
  have hlen:=j3 hc
  simp at hl
  have:=Nx (cs:=cs.set off y) (vs:=vs.set off u) (off:=off+1) h2 (yL hc off h1) (by simp;omega)
  have C3:=j3 h2
  rw [list_seg_step vs off u us (by omega)] at this
  simpa [sW] using this
theorem Z5 {t:TypeId} {i:TI} (I:px P t i) {v:Value} (hv:v.cells.size=i.size) (h1:∀u∈v.cells.toList,u.oneCell'=true) (w:World) (b off:Nat) (cur:Array Value) (e:TypeId)
  (hg:w.heap[b]?=some (.cells cur e (0,0))) (ua:off+i.size<=cur.size) :
  (storeVar t ⟨b,off,none⟩ v).run P w=.ok () (w.setRow b (cur.toList.take off++v.cells.toList++cur.toList.drop (off+v.cells.toList.length)).toArray):=by
 have:=run_storeCells_at P b off e v.cells.toList 0 cur w hg (by simpa [hv] using ua) h1
 simp only [vX] at this
 simp [storeVar,run_sizeOf I,hv,this]
theorem NA (w:World) (b:Nat) (cs:Array Value):w.grownBy (w.setRow b cs) (some b) :=
 ⟨rfl,rfl,rfl,by simp,λk _ hk=>setRow_other w b k _ (λe=>hk (by rw [e]))⟩
theorem anJ (l us:List Value) (k m:Nat) (h1:k+us.length<=m) (h2:m<=l.length) :
  (l.take k++us++l.drop (k+us.length)).take m=(l.take m).take k++us++(l.take m).drop (k+us.length):=by
 rw [Ob,yK (by omega),GK,Tg,GY (by simp;omega)]
 simp only [ib,lJ,yK (show k<=l.length by omega)]
theorem ZV:∀(ys cs ds:List SV) (off:Nat),off+ys.length<=cs.length->sW (cs++ds) off ys=sW cs off ys++ds
 | [],cs,ds,off,_=>rfl
 | y :: ys,cs,ds,off,h=>by
  simp at h
  simp only [sW]
  rw [List.set_append_left _ _ (by omega),ZV ys _ ds _ (by simp;omega)]
theorem ac5 {T:Type} {q:Nat->Live} {c:T->List SV} {sz:Nat} (mf:∀x,du (c x)/\(c x).all SV.one=true) {us:List Value} {ys:List SV} {off:Nat} {y1 y2:T}
  (vk:(c y2).length=sz) (hle:dR (sW (c y1) off ys) (c y2)) (hy:a9 η q H ys us) (agQ:off+us.length<=sz) :
  ∀{xs:List T} {vals:List Value} {j:Nat},(∀x∈xs,(c x).length=sz)->eC H (xs.flatMap c) vals->xs[j]?=some y1 ->
  (vals.take (j*sz+off)++us++vals.drop (j*sz+off+us.length)).length=vals.length /\
  eC H ((xs.set j y2).flatMap c) (vals.take (j*sz+off)++us++vals.drop (j*sz+off+us.length))
 | [],vals,j,_,_,hj=>by simp at hj
 | x :: r,vals,0,h5,h4,hj=>by
  simp at hj;subst hj
  have hx:(c x).length=sz:=h5 x (by simp)
  have C3:=j3 hy
  simp only [Nat.zero_mul,sU,List.set_cons_zero]
  rw [yI] at h4 ⊢
  have mH:=j3 h4
  simp only [ib,hx] at mH
  refine ⟨by simp;omega,?_⟩
  have h1:a9 η q H (c x++r.flatMap c) vals:=eC.up (bO.le.refl H) h4
  have h2:=Nx (off:=off) hy h1 (by simp;omega)
  rw [ZV _ _ _ _ (by omega)] at h2
  obtain ⟨h3,_⟩:=Gz h2
  rw [ZU,hx] at h3
  have h6:=lL _ _ (mf y2).1 (kL hle h3) (η':=λ_=>.nilIface) (q':=λ_=>.un)
  obtain ⟨_,h7⟩:=Gz h4
  have h8:=jN h6 h7
  rw [hx] at h8
  have e:(vals.take off++us++vals.drop (off+us.length))=(vals.take off++us++vals.drop (off+us.length)).take sz++vals.drop sz:=by
   conv=>lhs;rw [<-List.take_append_drop sz (vals.take off++us++vals.drop (off+us.length))]
   congr 1
   rw [List.drop_append,List.drop_eq_nil_of_le (by simp;omega),jP,List.drop_drop]
   congr 1
   simp
   omega
  rw [e]
  exact h8
 | x :: r,vals,j+1,h5,h4,hj=>by
  have hx:(c x).length=sz:=h5 x (by simp)
  rw [yI] at h4
  obtain ⟨h6,h7⟩:=Gz h4
  rw [hx] at h6 h7
  have mH:=j3 h4
  simp only [ib,hx] at mH
  obtain ⟨i1,i2⟩:=ac5 mf vk hle hy agQ (xs:=r) (λz hz=>h5 z (by simp [hz])) h7 (by simpa using hj)
  have e:vals.take ((j+1)*sz+off)++us++vals.drop ((j+1)*sz+off+us.length) =
    vals.take sz++((vals.drop sz).take (j*sz+off)++us++(vals.drop sz).drop (j*sz+off+us.length)):=by
   rw [show (j+1)*sz+off=sz+(j*sz+off) by rw [Nat.add_mul];omega,List.take_add,List.drop_drop]
   simp [Nat.add_assoc]
  rw [e]
  refine ⟨by rw [ib,i1];simp;omega,?_⟩
  rw [GG,yI]
  exact jN h6 i2
theorem aoN (C:X.Ok P) (D:Den f s η H a w) (t:TypeId) (x y:Operand) (ho:o.op=.store t x y) (hd:o.dst=none)
  (h:(Cf X s.b t (Vc.ev s x) (Vc.ev s y)).K R):fT P f s o a w R:=by
 have hx:=D.ev x
 have hy:=D.ev y
 unfold Cf at h
 split at h
 case h_2=>exact h.elim
 rename_i i ys hi sF
 have I:=C.tt _ _ hi
 obtain ⟨gg,jj⟩:=TR sF hy
 split at h
 case isFalse=>exact h.elim
 rename_i hlen
 have zx:(a.eval y).cells.size=i.size:=by have:=j3 gg;simp at this;omega
 split at h
 ·rename_i l off ex
  rw [ex] at hx
  split at h
  ·rename_i e cs hs
   split at h
   ·rename_i ua
    simp only [rel,df hs,Slot.live] at hx
    obtain ⟨bl,h1,h2⟩:=hx
    obtain ⟨me,vs,h3,h4,h5⟩:=D.sl l _ hs
    rw [h1] at h3
    simp at h3;subst h3
    have mH:=j3 h5
    simp at mH
    have dX:bd s.b l=.live:=by rw [df hs];rfl
    have Wr:=Nx (off:=off) gg h5 (by omega)
    have D':=D.change (η':=η) (l:=l) (x:=.fix e (sW cs off ys)) none (b':=s.b.set l (.fix e (sW cs off ys))) rfl (λ_ _=>rfl) (.inr ⟨dX,rfl,rfl⟩) rfl
     (λ_ h=>by cases h) (some bl) (NA w bl _) (λk hk=>.inr ⟨dX,by simp at hk;subst hk;rw [h1];rfl⟩)
     (λb hb=>.inr (.inr ⟨dX,hb⟩)) (λT=>⟨bl,_,h1,setRow_heap w bl vs _ e _ h4,iZ T (bO.le.refl H) _ _ Wr⟩)
    refine ⟨_,_,h,λK Q hk=>?_⟩
    unfold Oper.wp
    have hr:=Z5 I zx jj w bl off vs e h4 (by omega)
    simp only [execOp,ho,h2,Sem.run_bind,Instr.storeAt,Instr.sureAddr,Sem.run_pure,Result.andThen_ok,hr]
    refine hk η H _ undef ?_
    rw [hd]
    exact D'
   ·exact h.elim
  ·exact h.elim
 ·rename_i l sz j off ex
  rw [ex] at hx
  split at h
  ·rename_i T e lu c xs hs
   split at h
   ·rename_i hc
    obtain ⟨eb,agQ⟩:=hc
    subst eb
    obtain ⟨⟨y1,y2⟩,⟨hj,vk,hle⟩,hR⟩:=h
    simp only at hj vk hle hR
    simp only [rel,df hs,Slot.live] at hx
    obtain ⟨bl,n,cap,h1,h2⟩:=hx
    obtain ⟨vals,p9,h4,h5,mf⟩:=D.sl l _ hs
    have h3:=p9.pos (show 0 < (xs ()).length by have:=(bW.1 hj).1;omega)
    have dX:bd s.b l=.live:=by rw [df hs];rfl
    rcases h3.2 with ⟨hn,_⟩|⟨g,u9,cur,hg,_,oQ,AK,wL,lx,we⟩
    ·rw [h1] at hn;cases hn
    have CA:g=bl:=by rw [h1] at hg;simp at hg;exact hg.1.symm
    subst CA
    have er:j () < (xs ()).length:=(bW.1 hj).1
    have hmul:(j ()+1)*sz<=(xs ()).length*sz:=D9 _ er
    rw [Nat.add_mul,Nat.one_mul] at hmul
    have mH:=h3.1
    have EZ:(xs ()).length*sz<=u9*sz:=D9 _ AK
    have hr:=Z5 I zx jj w g (j ()*sz+off) cur e oQ (by rw [lx];omega)
    have ur:(a.eval y).cells.toList.length=i.size:=by simpa using zx
    obtain ⟨Vq,arf⟩:=ac5 (us:=(a.eval y).cells.toList) mf vk hle gg (by omega) h5 h4 hj
    have zg:w.ownsRow 0 e sz (η l) (xs ()).length vals:=h3
    have D':=D.change (w':=w.setRow g (cur.toList.take (j ()*sz+off)++(a.eval y).cells.toList++cur.toList.drop (j ()*sz+off+(a.eval y).cells.toList.length)).toArray) (η':=η) (l:=l) (x:=.dyn e sz c λ_=>(xs ()).set (j ()) y2) none (b':=s.b.set l (.dyn e sz c λ_=>(xs ()).set (j ()) y2)) rfl (λ_ _=>rfl)
     (.inr ⟨dX,rfl,rfl⟩) rfl (λ_ h=>by cases h) (some g) (NA w g _) (λk hk=>.inr ⟨dX,by simp at hk;subst hk;rw [hg];simp only [dp];rw [if_neg (by omega)]⟩)
     (λb hb=>.inr (.inr ⟨dX,hb⟩)) (λT=>⟨_,.of ⟨by simpa [mH] using Vq,.inr ⟨g,u9,_,by simpa using hg,cN _,setRow_heap w g cur _ e _ oQ,by simpa using AK,wL,?_,?_⟩⟩,arf,?_,mf⟩)
    ·refine ⟨_,_,hR,λK Q hk=>?_⟩
     unfold Oper.wp
     simp only [execOp,ho,h2,Sem.run_bind,Instr.storeAt,Instr.sureAddr,Sem.run_pure,Result.andThen_ok,hr]
     refine hk η H _ undef ?_
     rw [hd]
     exact D'
    ·simp only [Jz,ib,lJ,xx,Aq,ur]
     omega
    ·simp only [km]
     rw [anJ _ _ _ _ (by omega) (by simp;omega),we]
    ·intro z hz
     rcases NU hz with hz|rfl
     ·exact h5 z hz
     ·exact vk
   ·exact h.elim
  ·exact h.elim
 ·exact h.elim
end
section
variable {P:Program} {X:Ctx} {f:Fr} {s:St} {η:Nat->Value} {H:bO} {a:Act} {w:World} {o:Oper} {R:SV->List (Nat × Slot)->Prop}
theorem JH {q:Nat->Live} {x:SV} {v:Value} (hx:rel η q H x v) (k:Nat) :
  (∀l off,x=.ptr l off->∃ad,v=.pointer (some ad)/\rel η q H (.ptr l (off+k)) (.pointer (some (ad.add k)))) /\
  (∀cs off,x=.dE cs off->∃ad,v=.pointer (some ad)/\rel η q H (.dE cs (off+k)) (.pointer (some (ad.add k)))) /\
  (∀l sz i off,x=.ig l sz i off->∃ad,v=.pointer (some ad)/\rel η q H (.ig l sz i (off+k)) (.pointer (some (ad.add k)))):=by
 refine ⟨?_,?_,?_⟩
 ·rintro l off rfl
  simp only [rel] at hx ⊢
  cases hq:q l<;>simp only [hq] at hx ⊢
  ·obtain ⟨ad,rfl⟩:=hx;exact ⟨ad,rfl,_,rfl⟩
  ·obtain ⟨bl,h1,rfl⟩:=hx;exact ⟨_,rfl,bl,h1,by rw [uW]⟩
 ·rintro cs off rfl
  simp only [rel] at hx ⊢
  obtain ⟨ad,rfl,h2⟩:=hx
  exact ⟨_,rfl,ad,by rw [uW,Nat.add_assoc],h2⟩
 ·rintro l sz i off rfl
  simp only [rel] at hx ⊢
  cases hq:q l<;>simp only [hq] at hx ⊢
  ·obtain ⟨ad,rfl⟩:=hx;exact ⟨ad,rfl,_,rfl⟩
  ·obtain ⟨bl,n,c,h1,rfl⟩:=hx;exact ⟨_,rfl,bl,n,c,h1,by rw [uW,Nat.add_assoc]⟩
theorem al4 {t:TypeId} {i:TI} (I:px P t i) {fs:List (TypeId × Nat × Nat)} (hd:i.d=.st fs) {j:Nat} {ft off sz:Nat} (hj:fs[j]?=some (ft,off,sz)) (ad:Addr) (w:World) :
  (Instr.fieldAt t (.pointer (some ad)) j).run P w=.ok (.pointer (some (ad.add off))) w:=by
 have:=I.desc
 rw [hd] at this
 obtain ⟨gs,h1,h2,h3⟩:=this
 have aR:j < gs.size:=by rw [h2];exact (bW.1 hj).1
 obtain ⟨inf,h4,h5,h6⟩:=h3 j gs[j] (by simp [aR])
 rw [hj] at h6
 simp at h6
 simp [Instr.fieldAt,run_underlying h1,aR,Instr.sureAddr,fieldPlace,sizeOf,typeInfo,h4,h5,<-h6.2.1]
theorem al5 (C:X.Ok P) (D:Den f s η H a w) (t:TypeId) (x:Operand) (j:Nat) (ho:o.op=.fieldAddr t x j) (h:(Jq X t (Vc.ev s x) j).K R):fT P f s o a w R:=by
 have hx:=D.ev x
 unfold Jq at h
 split at h<;>first|exact h.elim|skip
 rename_i i hi
 have I:=C.tt _ _ hi
 split at h<;>first|exact h.elim|skip
 rename_i fs hd
 split at h<;>first|exact h.elim|skip
 rename_i ft off sz hj
 have fin:∀(y:SV),(∃ad,a.eval x=.pointer (some ad)/\rel η (bd s.b) H y (.pointer (some (ad.add off))))->R y []->fT P f s o a w R:=by
  rintro y ⟨ad,hp,hr⟩ hR
  refine eJ D (λw=>?_) hr hR
  simp only [execOp,ho,hp,Sem.run_bind,al4 I hd hj,Result.andThen_ok,Sem.run_pure]
 obtain ⟨h1,h2,h3⟩:=JH hx off
 split at h<;>first|exact h.elim|skip
 ·rename_i l k ex;exact fin _ (h1 l k ex) h
 ·rename_i cs k ex;exact fin _ (h2 cs k ex) h
 ·rename_i l sz j k ex;exact fin _ (h3 l sz j k ex) h
theorem al6 (C:X.Ok P) (D:Den f s η H a w) (t:TypeId) (x ix:Operand) (ho:o.op=.indexAddr t x ix) (h:(BP X s.b t (Vc.ev s x) (Vc.ev s ix)).K R):fT P f s o a w R:=by
 have hx:=D.ev x
 have iB:=D.ev ix
 unfold BP at h
 split at h<;>first|exact h.elim|skip
 rename_i i hi
 have I:=C.tt _ _ hi
 have cU:=I.desc
 split at h<;>first|exact h.elim|skip
 ·rename_i n e hd
  rw [hd] at cU
  split at h<;>first|exact h.elim|skip
  rename_i j k m hj em
  have J:=C.tt _ _ hj
  split at h<;>first|exact h.elim|skip
  rename_i hm
  rw [em] at iB
  simp only [rel] at iB
  have fin:∀(y:SV),(∃ad,a.eval x=.pointer (some ad)/\rel η (bd s.b) H y (.pointer (some (ad.add (m.toNat*j.size)))))->R y []->fT P f s o a w R:=by
   rintro y ⟨ad,hp,hr⟩ hR
   refine eJ D (λw=>?_) hr hR
   have iC:0<=m/\m < (n:Int):=by omega
   simp [execOp,ho,hp,iB,Instr.indexAt,asIntOf,run_underlying cU,Instr.sureAddr,iC,run_sizeOf J]
  obtain ⟨h1,h2,h3⟩:=JH hx (m.toNat*j.size)
  split at h<;>first|exact h.elim|skip
  ·rename_i l k ex;exact fin _ (h1 l k ex) h
  ·rename_i cs k ex;exact fin _ (h2 cs k ex) h
  ·rename_i l sz j k ex;exact fin _ (h3 l sz j k ex) h
  ·rename_i j k m hj em
   have J:=C.tt _ _ hj
   rw [em] at iB
   simp only [rel] at iB
   have fin:∀(g:Nat) (y:SV),(m ()=(g:Int)/\g < n)->(∃ad,a.eval x=.pointer (some ad)/\rel η (bd s.b) H y (.pointer (some (ad.add (g*j.size)))))->R y []->fT P f s o a w R:=by
    rintro g y ⟨hg,aR⟩ ⟨ad,hp,hr⟩ hR
    refine eJ D (λw=>?_) hr hR
    rw [hg] at iB
    simp [execOp,ho,hp,iB,Instr.indexAt,asIntOf,run_underlying cU,Instr.sureAddr,aR,run_sizeOf J]
   split at h<;>first|exact h.elim|skip
   ·rename_i l k ex;obtain ⟨g,hg,h⟩:=h;exact fin g _ hg.out ((JH hx _).1 l k ex) h
   ·rename_i cs k ex;obtain ⟨g,hg,h⟩:=h;exact fin g _ hg.out ((JH hx _).2.1 cs k ex) h
   ·rename_i l sz p k ex;obtain ⟨g,hg,h⟩:=h;exact fin g _ hg.out ((JH hx _).2.2 l sz p k ex) h
 ·rename_i e hd
  rw [hd] at cU
  split at h<;>first|exact h.elim|skip
  rename_i j k m hj hm
  have J:=C.tt _ _ hj
  have LY:=oB hm iB
  have run:∀(ad:Addr) (n c:Nat),a.eval x=.slice (some ad) n c->0<=m ()->(m ()).toNat < n->∀w,
    (execOp a.eval o).run P w=.ok (.value (.pointer (some (ad.add ((m ()).toNat*j.size))))) w:=by
   intro ad n c hp h0 h1 w
   have iC:0<=m ()/\m () < (n:Int):=by omega
   simp [execOp,ho,hp,LY,Instr.indexAt,asIntOf,run_underlying cU,iC,run_sizeOf J]
  split at h<;>first|exact h.elim|skip
  ·rename_i T sz c xs ex
   split at h<;>first|exact h.elim|skip
   rename_i eb
   subst eb
   obtain ⟨y,⟨h0,hy⟩,hR⟩:=h
   rw [ex] at hx
   simp only [rel] at hx
   obtain ⟨⟨ad,cap,h1,h2,h3⟩,_⟩:=hx
   have aR:=(bW.1 hy).1
   rcases h3 with h3|⟨ad,rfl,gV,h4⟩
   ·rw [h3] at aR;simp at aR
   obtain ⟨vals,h5,h6,h7⟩:=h4 _ y hy
   refine eJ D (run ad _ _ h1 h0 aR) ?_ hR
   simp only [rel]
   exact ⟨ad.add ((m ()).toNat*j.size),by rw [rz _ gV];simp,vals,h6,by rw [rz _ gV];exact h7⟩
  ·rename_i l ex
   split at h<;>first|exact h.elim|skip
   rename_i T e' sz c xs hs
   split at h<;>first|exact h.elim|skip
   rename_i eb
   subst eb
   obtain ⟨⟨h0,h1⟩,hR⟩:=h
   rw [ex] at hx
   simp only [rel,df hs,Slot.live] at hx
   obtain ⟨vals,p9,h4,h5,mf⟩:=D.sl l _ hs
   have h3:=p9.pos (show 0 < (xs ()).length by omega)
   rcases h3.2 with ⟨hn,hz⟩|⟨g,u9,cur,hg,_,oQ,AK,wL,lx,we⟩
   ·omega
   refine eJ D (run ⟨g,0,none⟩ _ _ (hx.1.trans hg) h0 h1) ?_ hR
   simp only [rel,df hs,Slot.live]
   exact ⟨g,_,_,hg,by rw [uW];simp⟩
  ·rename_i l sz g h' ex
   split at h<;>first|exact h.elim|skip
   rename_i T e' lu c xs hs
   split at h<;>first|exact h.elim|skip
   rename_i eb
   subst eb
   obtain ⟨⟨h0,h1⟩,hR⟩:=h
   rw [ex] at hx
   simp only [rel,df hs,Slot.live] at hx
   obtain ⟨ad,nn,cc,p1,p2,p3,nk,c',p4,p5,p6⟩:=hx
   obtain ⟨bl,rfl,rfl⟩:=p6.1 (by omega)
   refine eJ D (run ⟨bl,g ()*j.size,none⟩ _ _ p4 h0 h1) ?_ hR
   simp only [rel,df hs,Slot.live]
   exact ⟨bl,_,_,p1,by rw [uW,Nat.add_mul];simp⟩
  ·rename_i cs n ex
   rw [ex] at hx
   simp only [rel] at hx
   obtain ⟨ad,h3,h4⟩:=hx
   have fin:∀g:Nat,m ()=(g:Int)->g < n->R (.dE ((cs.drop (g*j.size)).take j.size) 0) []->fT P f s o a w R:=by
    intro g uu h1 hR
    rcases h4 with h4|⟨ad,rfl,gV,vals,h5,h6⟩
    ·omega
    have mH:=j3 h5
    refine eJ D (run ad n n h3 (by omega) (by omega)) ?_ hR
    simp only [rel,uu,ox]
    refine ⟨ad.add (g*j.size),by rw [rz _ gV];simp,_,GR (GQ h5 _) _,?_⟩
    rw [rz _ gV]
    intro k u hu
    rw [sR] at hu
    split at hu
    ·rw [lI] at hu
     have:=h6 _ u hu
     rwa [<-Nat.add_assoc] at this
    ·cases hu
   split at h<;>first|exact h.elim|skip
   ·rename_i k' m' em
    split at h<;>first|exact h.elim|skip
    rename_i iC
    obtain ⟨h0,h1,h2⟩:=iC
    have uu:m ()=(m'.toNat:Int):=by
     rw [em] at hm
     simp [SV.lq] at hm
     rw [<-hm.2]
     show m'=_
     omega
    exact fin _ uu h1 h
   ·rename_i k' m' em
    split at h<;>first|exact h.elim|skip
    rename_i E hE
    have EE:=C.el _ _ hE
    obtain ⟨⟨y,zs⟩,⟨g1,g2,g3,g4⟩,hR⟩:=h
    simp only at g1 g2 g3 g4 hR
    have uu:m ()=m' ():=by
     rw [em] at hm
     simp [SV.lq] at hm
     rw [<-hm.2]
    have aR:=(bW.1 g4).1
    rcases h4 with h4|⟨ad,rfl,gV,vals,h5,h6⟩
    ·omega
    have h7:=DQ (λx _=>EE.len j hj x) (kL g1 h5) _ y g4
    refine eJ D (run ad n n h3 (by omega) (by omega)) ?_ hR
    simp only [rel,uu]
    refine ⟨ad.add ((m' ()).toNat*j.size),by rw [rz _ gV];simp,_,h7,?_⟩
    rw [rz _ gV]
    intro k u hu
    rw [sR] at hu
    split at hu
    ·rw [lI] at hu
     have:=h6 _ u hu
     rwa [<-Nat.add_assoc] at this
    ·cases hu
theorem aoO (C:X.Ok P) (D:Den f s η H a w) (t:TypeId) (x ix:Operand) (ho:o.op=.index t x ix) (h:(O2 X t (Vc.ev s x) (Vc.ev s ix)).K R):fT P f s o a w R:=by
 have hx:=D.ev x
 have iB:=D.ev ix
 unfold O2 at h
 split at h<;>first|exact h.elim|skip
 rename_i i hi
 have I:=C.tt _ _ hi
 have cU:=I.desc
 split at h<;>first|exact h.elim|skip
 ·rename_i y hd ex
  rw [hd] at cU
  split at h<;>first|exact h.elim|skip
  rename_i k m hm
  obtain ⟨⟨h0,h1⟩,hR⟩:=h
  have LY:=oB hm iB
  rw [ex] at hx
  simp only [rel] at hx
  refine eJ D (v:=.int .u8 (((y ()).data.toList.getD (m ()).toNat 0).toNat)) (λw=>?_) (by simp only [rel]) hR
  have h2:(y ())[(m ()).toNat]?=some ((y ())[(m ()).toNat]):=by
   exact getElem?_pos (y ()) _ h1
  have h3:(y ()).data.toList.getD (m ()).toNat 0=(y ())[(m ()).toNat]:=by
   rw [iE,eo (by simpa using h1)]
   rfl
  simp [execOp,ho,hx,LY,Instr.index,asIntOf,run_underlying cU,h0,h2]
  rw [<-h3]
  simp
 ·rename_i n e cs hd ex
  rw [hd] at cU
  split at h<;>first|exact h.elim|skip
  rename_i j k m hj em
  have J:=C.tt _ _ hj
  split at h<;>first|exact h.elim|skip
  rename_i hm
  split at h<;>first|exact h.elim|skip
  rename_i v hv
  rw [em] at iB
  rw [ex] at hx
  simp only [rel] at iB hx
  obtain ⟨vs,h1,h2⟩:=hx
  obtain ⟨h3,h4⟩:=JS J hv h2
  refine eJ D (λw=>?_) h4 h
  have iC:0<=m/\m < (n:Int):=by omega
  simp [execOp,ho,h1,iB,Instr.index,asIntOf,run_underlying cU,iC,run_sizeOf J,part,Og J]
  cases hq:j.agg
  ·simp only [jE,if_false]
   have hp:=J.pos
   simp at h3
   have aR:m.toNat*j.size < vs.length:=by omega
   simp [lI,aR]
  ·simp [GK]
  ·rename_i j k m hj em
   have J:=C.tt _ _ hj
   split at h<;>first|exact h.elim|skip
   obtain ⟨g,⟨hg,XW,arh⟩,h⟩:=h
   rw [em] at iB
   rw [ex] at hx
   simp only [rel] at iB hx
   rw [hg] at iB
   obtain ⟨vs,h1,h2⟩:=hx
   obtain ⟨v,hv⟩:=uT.1 arh
   obtain ⟨h3,h4⟩:=JS J hv h2
   simp only [hv] at h
   refine eJ D (λw=>?_) h4 h
   simp [execOp,ho,h1,iB,Instr.index,asIntOf,run_underlying cU,XW,run_sizeOf J,part,Og J]
   cases hq:j.agg
   ·simp only [jE,if_false]
    have hp:=J.pos
    simp at h3
    have aR:g*j.size < vs.length:=by omega
    simp [lI,aR]
   ·simp [GK]
theorem aoP (C:X.Ok P) (D:Den f s η H a w) (t:TypeId) (x:Operand) (j:Nat) (ho:o.op=.field t x j) (h:(O4 X t (Vc.ev s x) j).K R):fT P f s o a w R:=by
 have hx:=D.ev x
 unfold O4 at h
 split at h<;>first|exact h.elim|skip
 rename_i i cs hi ex
 have I:=C.tt _ _ hi
 have cU:=I.desc
 split at h<;>first|exact h.elim|skip
 rename_i fs hd
 rw [hd] at cU
 obtain ⟨gs,h1,h2,h3⟩:=cU
 split at h<;>first|exact h.elim|skip
 rename_i ft off sz hj
 split at h<;>first|exact h.elim|skip
 rename_i k hk
 have Kk:=C.tt _ _ hk
 split at h<;>first|exact h.elim|skip
 rename_i v hv
 have aR:j < gs.size:=by rw [h2];exact (bW.1 hj).1
 obtain ⟨inf,h4,h5,h6⟩:=h3 j gs[j] (by simp [aR])
 rw [hj] at h6
 simp at h6
 rw [ex] at hx
 simp only [rel] at hx
 obtain ⟨vs,h7,h8⟩:=hx
 obtain ⟨h9,h10⟩:=JS Kk hv h8
 refine eJ D (λw=>?_) h10 h
 simp [execOp,ho,h7,Instr.field,run_underlying h1,aR,asAgg,part,<-h6.1,<-h6.2.1,Og Kk,run_sizeOf Kk]
 cases hq:k.agg
 ·simp only [jE,if_false]
  have hp:=Kk.pos
  simp at h9
  have aR:off < vs.length:=by omega
  simp [lI,aR]
 ·simp [GK]
end
def nZ (η:Nat->Value) (l:Nat) (v:Value):Nat->Value:=λk=>if k=l then v else η k
theorem gd (η:Nat->Value) (l:Nat) (v:Value):nZ η l v l=v:=by simp [nZ]
theorem lH (η:Nat->Value) (l:Nat) (v:Value) (k:Nat) (h:k≠l):nZ η l v k=η k:=by simp [nZ,h]
section
variable {P:Program} {X:Ctx} {f:Fr} {s:St} {η:Nat->Value} {H:bO} {a:Act} {w:World} {o:Oper} {R:SV->List (Nat × Slot)->Prop}
theorem SM (t:TypeId) (v:Value) (w:World):(newVar t v).run P w=.ok ⟨w.heap.size,0,none⟩ (w.alloc (.cells v.cells t)):=by
 simp [newVar,newRow]
theorem aaj (D:Den f s η H a w) {l:Nat} (hl:s.b[l]?=some .un) {e:TypeId} {cs:List SV} {v:Value} (hc:a9 η (bd s.b) H cs v.cells.toList)
  (hr:(execOp a.eval o).run P w=.ok (.value (.pointer (some ⟨w.heap.size,0,none⟩))) (w.alloc (.cells v.cells e)))
  (h:R (.ptr l 0) [(l,.fix e cs)]):fT P f s o a w R:=by
 refine ⟨_,_,h,λK Q hk=>?_⟩
 unfold Oper.wp
 rw [hr]
 have aR:=(bW.1 hl).1
 have D':=D.change (w':=w.alloc (.cells v.cells e)) (η':=nZ η l (.pointer (some ⟨w.heap.size,0,none⟩))) (l:=l) (x:=.fix e cs) none (b':=s.b.set l (.fix e cs)) rfl
  (λk hk=>lH _ _ _ k hk) (.inl hl) rfl (λ_ h=>by cases h) none (World.grownBy_alloc w _ none) (λk hk=>by cases hk)
  (λb hb=>.inl (by rw [gd] at hb;simp [dp] at hb;omega))
  (λT=>⟨w.heap.size,v.cells,gd _ _ _,heap_alloc_new w _,iZ T (bO.le.refl H) _ _ hc⟩)
 refine hk _ H _ _ (Den.put D' o.dst ?_)
 simp only [rel,uX l aR,if_true,Slot.live]
 exact ⟨_,gd _ _ _,rfl⟩
theorem aoQ (C:X.Ok P) (D:Den f s η H a w) {l:Nat} (hl:s.b[l]?=some .un) (e:TypeId) (ho:o.op=.alloc e) {i:TI} (hi:X.tt e=some i)
  (h:R (.ptr l 0) [(l,.fix e (i.zero.cells.toList.map l6))]):fT P f s o a w R:=by
 have I:=C.tt _ _ hi
 obtain ⟨inf,h1,h2,h3,h4⟩:=I.info
 refine aaj D hl (v:=i.zero) (BR η _ H _) ?_ h
 simp [execOp,ho,Instr.alloc,zeroValue,typeInfo,h1,h4,SM]
theorem ari (C:X.Ok P) (D:Den f s η H a w) {l:Nat} (hl:s.b[l]?=some .un) (e:TypeId) (x:Operand) (ho:o.op=.box e x) {cs:List SV} (hc:(Vc.ev s x).cells?=some cs)
  (h:R (.ptr l 0) [(l,.fix e cs)]):fT P f s o a w R:=by
 refine aaj D hl (v:=a.eval x) (TR hc (D.ev x)).1 ?_ h
 simp [execOp,ho,Instr.box,SM]
theorem aa3 (f:Nat->Nat):∀(us:List Value) (k:Nat) (cs:List Value) (off:Nat),(us.zipIdx k).foldl (λ(cs:Array Value) (p:Value × Nat)=>cs.setIfInBounds (off+p.2) p.1) cs.toArray =
  (cs.take (off+k)++us++cs.drop (off+k+us.length)).toArray\/cs.length < off+k+us.length
 | [],k,cs,off=>by left;simp
 | u :: us,k,cs,off=>by
  by_cases hl:cs.length < off+k+(us.length+1)
  ·right;simpa using hl
  left
  rcases aa3 f us (k+1) (cs.set (off+k) u) off with h|h
  ·simp only [List.zipIdx_cons,As,List.setIfInBounds_toArray]
   rw [h]
   congr 1
   have:=list_seg_step cs (off+k) u us (by omega)
   simpa [Nat.add_assoc,Nat.add_comm,Nat.add_left_comm] using this
  ·simp at h;omega
theorem OL {q:Nat->Live} (place:Nat->Option (Nat × Nat)):∀(ps:List (Nat × SV)) (vs:List (Nat × Value)) (cs:List SV) (us:List Value) (A9:List SV),
  vs.map (·.1)=ps.map (·.1)->a9 η q H (ps.map (·.2)) (vs.map (·.2))->a9 η q H cs us->EI place ps cs=some A9 ->
  ∃Rb:List Value,Instr.fill place us.toArray vs=some Rb.toArray/\a9 η q H A9 Rb
 | [],vs,cs,us,A9,h1,h2,h3,h4=>by
  simp at h1;subst h1
  simp [EI] at h4;subst h4
  exact ⟨us,by simp [Instr.fill],h3⟩
 | (j,x) :: ps,[],cs,us,A9,h1,h2,h3,h4=>by simp at h1
 | (j,x) :: ps,(j',v) :: vs,cs,us,A9,h1,h2,h3,h4=>by
  simp at h1
  obtain ⟨rfl,h1⟩:=h1
  simp only [mw,a9] at h2
  obtain ⟨v',sE,e,h5,h6⟩:=h2
  simp at e
  obtain ⟨rfl,rfl⟩:=e
  simp only [EI] at h4
  split at h4
  ·rename_i off size ys hp sF
   split at h4
   ·rename_i hc
    obtain ⟨eb,ua⟩:=hc
    obtain ⟨a1,a2⟩:=TR sF h5
    have qa:=j3 a1
    have FD:=j3 h3
    have Wr:=Nx (off:=off) a1 h3 ua
    obtain ⟨Rb,b1,b2⟩:=OL place ps vs _ _ A9 h1 h6 Wr h4
    refine ⟨Rb,?_,b2⟩
    rw [Instr.fill,hp]
    simp only
    have lx:v.cells.size=size:=by simp at qa;omega
    rw [if_neg (by simp [lx];simp at qa;omega)]
    rw [<-b1]
    congr 1
    rw [<-Array.foldl_toList]
    rcases aa3 id v.cells.toList 0 us off with h|h
    ·simpa using h
    ·simp at h;simp at qa;omega
   ·cases h4
  ·cases h4
theorem abS {α β:Type} (g:α->Sem β) (r:α->β):∀(l:List α),(∀x∈l,∀w,(g x).run P w=.ok (r x) w)->∀w,(l.mapM g).run P w=.ok (l.map r) w
 | [],_,w=>by simp
 | x :: l,h,w=>by
  have h1:=h x (by simp) w
  have h2:=abS g r l (λy hy=>h y (by simp [hy])) w
  rw [JE]
  simp only [Sem.run_bind,h1,Result.andThen_ok,h2,Sem.run_pure,mw]
theorem amV {α β:Type} (g:α->Sem β) (r:α->β) (l:Array α) (h:∀x∈l.toList,∀w,(g x).run P w=.ok (r x) w) (w:World):(l.mapM g).run P w=.ok (l.map r) w:=by
 rw [aaT]
 rw [map_eq_pure_bind]
 have h2:=abS (P:=P) g r l.toList h w
 rw [Sem.run_bind,h2]
 simp only [Result.andThen_ok,Sem.run_pure]
 rw [<-Array.toList_map,Jv]
theorem Tw (s:St) (a:Act) (ps:List (Nat × Operand)) (D:Den f s η H a w) :
  a9 η (bd s.b) H ((ps.map λp=>(p.1,Vc.ev s p.2)).map (·.2)) ((ps.map λp=>(p.1,a.eval p.2)).map (·.2)):=by
 have h:=D.FB (ps.map λp=>p.2)
 rw [Od,Od] at h ⊢
 exact h
theorem aoR (C:X.Ok P) (D:Den f s η H a w) (t:TypeId) (parts:Array (Nat × Operand)) (ho:o.op=.build t parts)
  (h:(O3 X t (parts.toList.map λp=>(p.1,Vc.ev s p.2))).K R):fT P f s o a w R:=by
 unfold O3 at h
 split at h<;>first|exact h.elim|skip
 rename_i i hi
 have I:=C.tt _ _ hi
 obtain ⟨inf,n1,n2,n3,n4⟩:=I.info
 have cU:=I.desc
 have O6:(parts.map λ(x:Nat × Operand)=>(x.1,a.eval x.2)).toList=parts.toList.map λp=>(p.1,a.eval p.2):=by simp
 have hz:a9 η (bd s.b) H (i.zero.cells.toList.map l6) i.zero.cells.toList:=BR η _ H _
 split at h<;>first|exact h.elim|skip
 ·rename_i fs hd
  rw [hd] at cU
  obtain ⟨gs,h1,h2,h3⟩:=cU
  split at h<;>first|exact h.elim|skip
  rename_i cs lx
  obtain ⟨us,g1,g2⟩:=OL _ _ (parts.toList.map λp=>(p.1,a.eval p.2)) _ _ _ (by simp [N2]) (Tw s a _ D) hz lx
  have hm:=amV (P:=P) (λf:Field=>do pure (f.offset,<-sizeOf f.type)) (λf=>(f.offset,P.cellsOf f.type)) gs (λx hx w=>by
   obtain ⟨j,hj⟩:=BY.1 hx
   obtain ⟨inf,b1,b2,b3⟩:=h3 j x (by simpa using hj)
   simp [sizeOf,typeInfo,b1,Program.cellsOf])
  have C4:(λj:Nat=>(gs.map λf=>(f.offset,P.cellsOf f.type))[j]?)=λj:Nat=>(fs[j]?).map (λp=>p.2):=by
   funext j
   cases hj:gs[j]? with
   | none =>
    have:fs[j]?=none:=by
     rw [JO,<-h2]
     simpa using hj
    simp [hj,this]
   | some f =>
    obtain ⟨inf,b1,b2,b3⟩:=h3 j f hj
    simp [hj,b3,Program.cellsOf,b1]
  refine eJ D (v:=.agg us.toArray) (λw=>?_) (by simp only [rel];exact ⟨us,rfl,g2⟩) h
  simp only [execOp,ho,Sem.run_bind,Instr.build,zeroValue,typeInfo,run_program,n1,Result.andThen_ok,n4,Sem.run_pure,run_underlying h1,hm w]
  rw [C4]
  simp only [Jv] at g1
  rw [show (parts.map λ(x:Nat × Operand)=>(x.1,a.eval x.2)).toList=parts.toList.map λp=>(p.1,a.eval p.2) from O6,g1]
  rfl
 ·rename_i n e hd
  rw [hd] at cU
  split at h<;>first|exact h.elim|skip
  rename_i k hk
  have Kk:=C.tt _ _ hk
  split at h<;>first|exact h.elim|skip
  rename_i cs lx
  obtain ⟨us,g1,g2⟩:=OL _ _ (parts.toList.map λp=>(p.1,a.eval p.2)) _ _ _ (by simp [N2]) (Tw s a _ D) hz lx
  refine eJ D (v:=.agg us.toArray) (λw=>?_) (by simp only [rel];exact ⟨us,rfl,g2⟩) h
  simp only [execOp,ho,Sem.run_bind,Instr.build,zeroValue,typeInfo,run_program,n1,Result.andThen_ok,n4,Sem.run_pure,run_underlying cU,run_sizeOf Kk]
  simp only [Jv] at g1
  rw [show (parts.map λ(x:Nat × Operand)=>(x.1,a.eval x.2)).toList=parts.toList.map λp=>(p.1,a.eval p.2) from O6,g1]
  rfl
end
section
variable {P:Program} {X:Ctx} {f:Fr} {s:St} {η:Nat->Value} {H:bO} {a:Act} {w:World} {o:Oper} {R:SV->List (Nat × Slot)->Prop}
theorem Den.share (D:Den f s η H a w) {w':World} {H':bO} (g:w.grownBy w' none) (hle:H.le H') (dM:H'.jT w') (bB:∀b,H' b≠none->H b≠none\/w.heap.size<=b):Den f s η H' a w':=by
 have D1:=D.grown g
 exact {
  t:=iZ (jR.refl _ _) hle _ _ D1.t
  sv:=iZ (jR.refl _ _) hle _ _ D1.sv
  d:=D1.d
  h0:=D1.h0.trans hle
  hw:=dM
  fw:=D1.fw
  hf:=λb hb=>by
   rcases bB b hb with h|h
   ·exact D1.hf b h
   ·right
    cases hF:f.F b with
    | none=>rfl
    | some x=>have:=(ju.1 (D.fw b x hF)).1;omega
  sl:=λl x hx=>(D1.sl l x hx).kept (jR.refl _ _) hle rfl λb hb=>rfl
  dj:=D1.dj
  dh:=λl b hl hb=>by
   refine ⟨?_,(D1.dh l b hl hb).2⟩
   cases hH:H' b with
   | none=>rfl
   | some x =>
    rcases bB b (by rw [hH];simp) with h|h
    ·exact absurd (D1.dh l b hl hb).1 h
    ·have:=D.Eh hl hb;omega
  os:=D1.os
  tape:=D1.tape
  out:=D1.out }
theorem aak {α:Type 1} (xs:List α):∀n,(wy xs n).length=n*xs.length
 | 0=>by simp [wy]
 | n+1=>by simp [wy,aak xs n,Nat.add_mul];omega
theorem abT {α:Type 1} (xs:List α):∀n j,j < n*xs.length->(wy xs n)[j]?=xs[j % xs.length]?
 | 0,j,h=>by simp at h
 | n+1,j,h=>by
  simp only [wy]
  by_cases hj:j < xs.length
  ·rw [nV hj,Th hj]
  ·rw [uS (by omega),abT xs n (j - xs.length) (by rw [Nat.add_mul] at h;omega)]
   rw [Nat.mod_eq_sub_mod (a:=j) (by omega)]
theorem aa4 {q:Nat->Live} {xs:List SV} {zs:List Value} (h:a9 η q H xs zs) {n:Nat} {vs:List Value} (hl:vs.length=n*zs.length) (hv:∀j,j < n*zs.length->vs[j]?=zs[j % zs.length]?) :
  a9 η q H (wy xs n) vs:=by
 have he:=j3 h
 refine NG (by rw [aak,hl,he]) λj x u hx hu=>?_
 have hj:j < n*zs.length:=by rw [<-hl];exact (bW.1 hu).1
 rw [abT xs n j (by rw [<-he];exact hj)] at hx
 rw [hv j hj,he] at hu
 obtain ⟨u',h1,h2⟩:=uV h _ x hx
 rw [h1] at hu
 simp at hu;subst hu;exact h2
theorem abU (z:Array Value) (n j:Nat) (hz:0 < z.size) (hj:j < n):(madeCells z n).toList[j]?=z.toList[j % z.size]?:=by
 have:j % z.size < z.size:=Nat.mod_lt _ hz
 simp [madeCells,hj,this]
theorem flatMap_replicate {T:Type} (c:T->List SV) (z:T):∀n,(List.replicate n z).flatMap c=wy (c z) n
 | 0=>by simp [wy]
 | n+1=>by simp [NZ,wy,flatMap_replicate c z n]
theorem Ah (D:Den f s η H a w) {l:Nat} (hl:s.b[l]?=some .un) {T:Type} {e:TypeId} {sz:Nat} {c:T->List SV} {xs:Unit->List T} {v:Value} {w':World}
  (hr:(execOp a.eval o).run P w=.ok (.value v) w') (g:w.grownBy w' none) (hv:∀b,dp v=some b->w.heap.size<=b) (hs:Value.isSlice v)
  (cg:k7 (λ_=>v) (λ_=>.un) H w' 0 (.dyn e sz c xs)) (h:R (.own l) [(l,.dyn e sz c xs)]):fT P f s o a w R:=by
 refine ⟨_,_,h,λK Q hk=>?_⟩
 unfold Oper.wp
 rw [hr]
 have aR:=(bW.1 hl).1
 have D':=D.change (w':=w') (η':=nZ η l v) (l:=l) (x:=.dyn e sz c xs) none (b':=s.b.set l (.dyn e sz c xs)) rfl
  (λk hk=>lH _ _ _ k hk) (.inl hl) rfl (λ_ h=>by cases h) none g (λk hk=>by cases hk)
  (λb hb=>.inl (hv b (by rw [gd] at hb;exact hb)))
  (λT=>by obtain ⟨vals,h1,h2⟩:=cg;exact ⟨vals,by rw [gd];exact h1,h2⟩)
 refine hk _ H _ _ (Den.put D' o.dst ?_)
 simp only [rel,uX l aR,if_true,Slot.live]
 exact ⟨(gd _ _ _).symm,hs⟩
theorem al7 (C:X.Ok P) (D:Den f s η H a w) {l:Nat} (hl:s.b[l]?=some .un) (t:TypeId) (n m:Operand) (ho:o.op=.makeSlice t n m)
  (h:(Jr X l t (Vc.ev s n) (Vc.ev s m)).K R):fT P f s o a w R:=by
 have hn:=D.ev n
 have hm:=D.ev m
 unfold Jr at h
 split at h<;>first|exact h.elim|skip
 rename_i i hi
 have I:=C.tt _ _ hi
 have cU:=I.desc
 split at h<;>first|exact h.elim|skip
 rename_i e hd
 rw [hd] at cU
 split at h<;>first|exact h.elim|skip
 rename_i k E _ n' _ m' hk hE h1 h2
 have Kk:=C.tt _ _ hk
 have EE:=C.el _ _ hE
 obtain ⟨inf,n1,n2,n3,n4⟩:=Kk.info
 obtain ⟨⟨p0,p1,p2,p3⟩,hR⟩:=h
 have e1:=oB h1 hn
 have e2:=oB h2 hm
 have hr:=λkl kc=>run_make (P:=P) w t e inf k.zero cU n1 n4 kl kc (n' ()) (m' ()) p0 p1 (by rw [n3];exact p2) p3
 have zy:=Kk.AJ
 have wz:=Kk.pos
 refine Ah D hl (v:=.slice (some ⟨w.heap.size,0,none⟩) (n' ()).toNat (m' ()).toNat) (w':=w.alloc (.cells (madeCells k.zero.cells ((m' ()).toNat*k.size)) e)) ?_
  (World.grownBy_alloc w _ none) (λb hb=>by simp [dp] at hb<;>omega) ⟨_,_,_,rfl⟩ ?_ hR
 ·simp only [execOp,ho,Sem.run_bind,e1,e2,hr,n2,Result.andThen_ok,Sem.run_pure]
 ·have hle:(n' ()).toNat*k.size<=(m' ()).toNat*k.size:=D9 _ (by omega)
  refine ⟨(madeCells k.zero.cells ((m' ()).toNat*k.size)).toList.take ((n' ()).toNat*k.size),.of ⟨?_,.inr ⟨w.heap.size,(m' ()).toNat,_,?_,cN _,heap_alloc_new w _,?_,?_,size_madeCells _ _,?_⟩⟩,?_,?_,EE.lf⟩
  ·simp only [lJ,Aq,size_madeCells,sP];exact yK hle
  ·simp
  ·simp;omega
  ·unfold maxLen;omega
  ·simp
  ·rw [flatMap_replicate]
   have hz:=EE.zero k hk H
   refine aa4 hz ?_ ?_
   ·simp only [lJ,Aq,size_madeCells,zy];exact yK hle
   ·intro j hj
    have kQ:k.zero.cells.toList.length=k.size:=by simpa using zy
    rw [kQ] at hj ⊢
    rw [sR,if_pos hj,abU _ _ _ (by omega) (by omega),zy]
  ·intro x hx
   exact EE.len k hk x
theorem abV {T:Type} {c:T->List SV} (h:∀z,du (c z)):∀zs:List T,du (zs.flatMap c)
 | []=>trivial
 | z :: r=>by
  rw [yI]
  have app:∀a b:List SV,du a->du b->du (a++b):=by
   intro a
   induction a with
   | nil=>intro b _ h;exact h
   | cons x r ih=>intro b h1 h2;exact ⟨h1.1,ih b h1.2 h2⟩
  exact app _ _ (h z) (abV h r)
theorem alW (C:X.Ok P) (D:Den f s η H a w) {l:Nat} (hl:s.b[l]?=some .un) (t:TypeId) (n:Nat) (parts:Array (Nat × Operand)) (ho:o.op=.buildSlice t n parts)
  (h:(Jo X l t n (parts.toList.map λp=>(p.1,Vc.ev s p.2))).K R):fT P f s o a w R:=by
 unfold Jo at h
 split at h<;>first|exact h.elim|skip
 rename_i i hi
 have I:=C.tt _ _ hi
 have cU:=I.desc
 split at h<;>first|exact h.elim|skip
 rename_i e hd
 rw [hd] at cU
 split at h<;>first|exact h.elim|skip
 rename_i k hk
 have Kk:=C.tt _ _ hk
 obtain ⟨inf,n1,n2,n3,n4⟩:=Kk.info
 have zy:=Kk.AJ
 have wz:=Kk.pos
 have O6:(parts.map λ(x:Nat × Operand)=>(x.1,a.eval x.2)).toList=parts.toList.map λp=>(p.1,a.eval p.2):=by simp
 split at h
 ·split at h<;>first|exact h.elim|skip
  rename_i E hp hE
  have EE:=C.el _ _ hE
  have qU:parts.toList=[]:=by simpa using hp
  have tm:parts=#[]:=by simpa using qU
  have afo:(execOp a.eval o).run P w=.ok (.value (.slice (some ⟨w.heap.size,0,none⟩) 0 0)) (w.alloc (.cells #[] e)):=by
   simp [execOp,ho,tm,Instr.buildSlice,run_underlying cU,sizeOf,typeInfo,n1,Instr.fill,newRow,Array.range_zero']
  split at h
  ·refine Ah D hl (v:=.slice (some ⟨w.heap.size,0,none⟩) 0 0) (w':=w.alloc (.cells #[] e)) afo
    (World.grownBy_alloc w _ none) (λb hb=>by simp [dp] at hb<;>omega) ⟨_,_,_,rfl⟩ ?_ h
   exact ⟨[],.of (World.ownsRow_made w #[] 0 (cN _) (by simp [maxLen]) (by simp)),by simp [a9],by simp,EE.lf⟩
  ·refine ⟨_,[],h,λK Q hk=>?_⟩
   unfold Oper.wp
   rw [afo]
   refine hk _ H _ _ ((D.grown (World.grownBy_alloc w _ none)).put o.dst ?_)
   simp only [rel]
   exact ⟨⟨_,0,rfl,cR _,.inl (by simp)⟩,λz=>(EE.lf z).1⟩
 ·rename_i n
  split at h<;>first|exact h.elim|skip
  rename_i hle
  split at h<;>first|exact h.elim|skip
  rename_i cs lx
  have hn:¬(16777216 < (n+1)*k.size):=by omega
  have qV:(n+1)*k.size≠0:=Nat.mul_ne_zero (by omega) (by omega)
  have kQ:k.zero.cells.toList.length=k.size:=by simpa using zy
  have hz:a9 η (bd s.b) H (wy (k.zero.cells.toList.map l6) (n+1)) (madeCells k.zero.cells ((n+1)*k.size)).toList:=by
   refine aa4 (BR η _ H _) (by simp only [Aq,size_madeCells];rw [show k.zero.cells.size=k.size from zy]) λj hj=>?_
   rw [kQ] at hj ⊢
   rw [abU _ _ _ (by omega) hj,zy]
  obtain ⟨us,g1,g2⟩:=OL _ _ (parts.toList.map λp=>(p.1,a.eval p.2)) _ _ _ (by simp [N2]) (Tw s a _ D) hz lx
  have je:(execOp a.eval o).run P w=.ok (.value (.slice (some ⟨w.heap.size,0,none⟩) (n+1) (n+1))) (w.alloc (.cells us.toArray e)):=by
   simp only [execOp,ho,Sem.run_bind,Instr.buildSlice,run_underlying cU,Result.andThen_ok,run_sizeOf Kk]
   rw [if_neg (by simpa using hn),if_neg qV]
   simp only [Sem.run_bind,zeroValue,typeInfo,run_program,n1,Result.andThen_ok,n4,Sem.run_pure]
   simp only [Jv,madeCells] at g1
   rw [show (parts.map λ(x:Nat × Operand)=>(x.1,a.eval x.2)).toList=parts.toList.map λp=>(p.1,a.eval p.2) from O6,g1]
   rfl
  split at h
  case h_2 =>
   split at h<;>first|exact h.elim|skip
   rename_i E hE
   have EE:=C.el _ _ hE
   obtain ⟨ys,⟨y1,y2⟩,hR⟩:=h
   have g3:=kL y1 g2
   have hlen:us.length=(n+1)*k.size:=by
    have h0:=j3 g3
    rw [S9,vS (g:=λ_=>k.size) (λz _=>EE.len k hk z),Tk,S5,y2] at h0
    exact h0
   have hnk:n+1<=(n+1)*k.size:=Nat.le_mul_of_pos_right _ wz
   refine Ah D hl (v:=.slice (some ⟨w.heap.size,0,none⟩) (n+1) (n+1)) (w':=w.alloc (.cells us.toArray e)) je
    (World.grownBy_alloc w _ none) (λb hb=>by simp [dp] at hb<;>omega) ⟨_,_,_,rfl⟩ ?_ hR
   refine ⟨us,.of ⟨by rw [y2];exact hlen,.inr ⟨w.heap.size,n+1,_,by rw [y2],cN _,heap_alloc_new w _,by simp [y2],by unfold maxLen;omega,by simp [hlen],?_⟩⟩,?_,λx _=>EE.len k hk x,EE.lf⟩
   ·rw [y2];simp [<-hlen]
   ·exact lL _ _ (abV (λz=>(EE.lf z).1) ys) g3
  let H':bO:=λb=>if b=w.heap.size then some (.cells us.toArray e) else H b
  have Vr:H w.heap.size=none:=by
   cases hH:H w.heap.size with
   | none=>rfl
   | some x=>have:=(ju.1 (D.hw _ x hH)).1;omega
  have wA:H.le H':=λb x hb=>by
   simp only [H']
   rw [if_neg (by rintro rfl;rw [Vr] at hb;cases hb)]
   exact hb
  have D':=D.share (w':=w.alloc (.cells us.toArray e)) (H':=H') (World.grownBy_alloc w _ none) wA
   (λb x hb=>by
    simp only [H'] at hb
    split at hb
    ·rename_i eS;subst eS;simp at hb;subst hb;exact heap_alloc_new w _
    ·have:=D.hw b x hb
     rw [(World.grownBy_alloc w _ none).block b (ju.1 this).1 (by simp)];exact this)
   (λb hb=>by
    simp only [H'] at hb
    split at hb
    ·right;omega
    ·left;exact hb)
  refine ⟨_,[],h,λK Q hk=>?_⟩
  unfold Oper.wp
  rw [je]
  refine hk _ H' _ _ (D'.put o.dst ?_)
  simp only [rel]
  refine ⟨_,rfl,.inr ⟨⟨w.heap.size,0,none⟩,rfl,rfl,us,iZ (jR.refl _ _) wA _ _ g2,?_⟩⟩
  intro j u hu
  simp only [s5,H',if_true]
  simpa using hu
end
end Go.Vc
