import Derived.Test.YthnhbemmlfaihaaGreatT1
set_option linter.unusedVariables false
set_option linter.unusedSimpArgs false
set_option maxRecDepth 10000
set_option maxHeartbeats 64000000
namespace Go.Vc
open Go
def fS (P:Program) (f:Fr) (s:St) (o:Oper) (a:Act) (w:World) (R:SV->List (Nat × Slot)->Prop):Prop :=
 ∃x u,R x u/\∀(K:Act->World->Prop) (Q:Exit->Act->World->Prop),
  (∀η' H' w' v,Den f (s.ga o.dst x u) η' H' (a.put o.dst v) w'->K (a.put o.dst v) w')->o.wp P a w K Q
section
variable {P:Program} {X:Ctx} {f:Fr} {s:St} {η:Nat->Value} {H:bQ} {a:Act} {w:World} {o:Oper} {R:SV->List (Nat × Slot)->Prop}
theorem Ad (D:Den f s η H a w) {x:SV} {v:Value} {w':World} (hr:(execOp a.eval o).run P w=.ok (.value v) w') (g:w.grownBy w' none)
  (hx:rel η (bg s.b) H x v) (h:R x []):fS P f s o a w R :=
 ⟨x,[],h,λK Q hk=>by
  unfold Oper.wp
  rw [hr]
  exact hk η H w' v ((D.grown g).put o.dst hx)⟩
theorem eP (D:Den f s η H a w) {x:SV} {v:Value} (hr:∀w,(execOp a.eval o).run P w=.ok (.value v) w)
 (hx:rel η (bg s.b) H x v) (h:R x []):fS P f s o a w R:=Ad D (hr w) (qQ w none) hx h
theorem Den.D8 (D:Den f s η H a w) (t:Nat):rel η (bg s.b) H ((s.t[t]?).getD .any) (a.tmps.getD t undef):=by
 cases h:s.t[t]? with
 | none=>simp [rel]
 | some x =>
  obtain ⟨u,h1,h2⟩:=uF D.t t x h
  have h3:a.tmps[t]?=some u:=by simpa using h1
  rw [Jm,h3]
  exact h2
theorem S1 (η:Nat->Value) (q:Nat->Live) (H:bQ) (v:Value):rel η q H (mb v) v:=by
 unfold mb
 split<;>simp [rel]
theorem Bz (η:Nat->Value) (q:Nat->Live) (H:bQ):∀(vs:List Value),a_ η q H (vs.map mb) vs
 | []=>by simp [a_]
 | v :: r=>by simp only [lM,a_];exact ⟨v,r,rfl,S1 η q H v,Bz η q H r⟩
theorem NU (η:Nat->Value) (q:Nat->Live) (H:bQ) (v:Value):rel η q H (AW v) v:=by
 unfold AW
 split
 ·rename_i cs
  simp only [rel]
  exact ⟨cs.toList,by simp,Bz η q H _⟩
 ·exact S1 η q H v
theorem Den.ev (D:Den f s η H a w) (x:Operand):rel η (bg s.b) H (ev s x) (a.eval x):=by
 cases x with
 | tmp t=>exact D.D8 t
 | const v=>exact NU η _ H v
 | global g=>simp [Vc.ev,Act.eval,rel]
 | func g=>simp only [Vc.ev,Act.eval,rel];exact ⟨[],[],by simp,by simp [a_],by simp [a_]⟩
theorem Den.Fi (D:Den f s η H a w):∀xs:List Operand,a_ η (bg s.b) H (xs.map (Vc.ev s)) (xs.map a.eval)
 | []=>by simp [a_]
 | x :: r=>by simp only [lM,a_];exact ⟨_,_,rfl,D.ev x,D.Fi r⟩
theorem akU {v:Value} (h:v.oneCell'=true):v.cells=#[v]:=by
 cases v<;>first|rfl|simp [Value.oneCell'] at h
theorem GI {q:Nat->Live}:∀{xs:List SV} {vs:List Value},xs.all SV.one=true->a_ η q H xs vs->∀v∈vs,v.oneCell'=true
 | [],vs,_,h,v,hv=>by simp only [a_] at h;subst h;simp at hv
 | x :: r,vs,ho,h,v,hv=>by
  simp only [a_] at h
  obtain ⟨u,us,rfl,h1,h2⟩:=h
  simp only [DL,ei] at ho
  rcases er.1 hv with rfl|hv
  ·exact Ak ho.1 h1
  ·exact GI ho.2 h2 v hv
theorem S2 {q:Nat->Live} {x:SV} {v:Value} {ys:List SV} (hc:x.cells?=some ys) (h:rel η q H x v) :
  a_ η q H ys v.cells.toList/\∀u∈v.cells.toList,u.oneCell'=true:=by
 unfold SV.cells? at hc
 split at hc
 ·rename_i cs
  split at hc
  ·rename_i ho
   simp at hc;subst hc
   simp only [rel] at h
   obtain ⟨vs,rfl,h2⟩:=h
   simp only [Value.cells]
   exact ⟨h2,GI ho h2⟩
  ·cases hc
 ·split at hc
  ·rename_i ho
   simp at hc;subst hc
   have h1:=Ak ho h
   rw [akU h1]
   refine ⟨by simp only [a_];exact ⟨v,[],rfl,h,rfl⟩,λu hu=>by simp at hu;subst hu;exact h1⟩
  ·cases hc
theorem Oe {q:Nat->Live} {x:SV} {v:Value} {y:Unit->Bool} (hc:x.HR=some y) (h:rel η q H x v):v=.bool (y ()):=by
 cases x<;>simp [SV.HR] at hc<;>subst hc<;>simpa [rel] using h
theorem oW {q:Nat->Live} {x:SV} {v:Value} {k:IntKind} {y:Unit->Int} (hc:x.lD=some (k,y)) (h:rel η q H x v):v=.int k (y ()):=by
 cases x<;>simp [SV.lD] at hc<;>obtain ⟨rfl,rfl⟩:=hc<;>simpa [rel] using h
theorem adn (D:Den f s η H a w) (x:Operand) (ho:o.op=.move x\/o.op=.assign x) (h:R (Vc.ev s x) []):fS P f s o a w R :=
 eP D (v:=a.eval x) (λw=>by rcases ho with ho|ho<;>simp [execOp,ho]) (D.ev x) h
theorem aoZ (D:Den f s η H a w) (c x y:Operand) (ho:o.op=.pick c x y) (h:(OM (Vc.ev s c) (Vc.ev s x) (Vc.ev s y)).K R):fS P f s o a w R:=by
 have hc:=D.ev c
 have hx:=D.ev x
 have hy:=D.ev y
 unfold OM at h
 split at h
 ·rename_i e;rw [e] at hc;simp only [rel] at hc
  exact eP D (v:=a.eval x) (λw=>by simp [execOp,ho,hc,asBool]) hx h
 ·rename_i e;rw [e] at hc;simp only [rel] at hc
  exact eP D (v:=a.eval y) (λw=>by simp [execOp,ho,hc,asBool]) hy h
 ·rename_i z e;rw [e] at hc;simp only [rel] at hc
  split at h
  ·rename_i f g hf hg
   have h1:=Oe hf hx
   have h2:=Oe hg hy
   refine eP D (v:=if z () then a.eval x else a.eval y) (λw=>by simp [execOp,ho,hc,asBool]) ?_ h
   simp only [rel]
   rw [h1,h2]
   split<;>rfl
  ·exact h.elim
 ·exact h.elim
theorem ZW {op:BinOp} {k:IntKind} {x y:Int} {v:Value} (h:∀w,(match op with
  | .add|.sub|.mul=>Op.intArith op k x y
  | .quo|.rem=>Op.intDiv op k x y
  | .and|.or|.xor|.andNot=>Op.intBits op k x y
  | _=>Op.intCmp op x y:Sem Value).run P w=.ok v w) (hs:DY op=false) (t:TypeId) (X Y:Operand) (w:World) :
  (do eqGuard op t X Y (.int k x) (.int k y);binOp op t (.int k x) (.int k y):Sem Value).run P w=.ok v w:=by
 have:=h w
 cases op<;>simp [DY] at hs<;>simp_all [eqGuard,binOp]
theorem amL (D:Den f s η H a w) (op:BinOp) (t t':TypeId) (x y:Operand) (ho:o.op=.binOp op t x y t') {k:IntKind} {m n:Unit->Int}
  (hs:DY op=false) (hx:(Vc.ev s x).lD=some (k,m)) (hy:(Vc.ev s y).lD=some (k,n)) (h:(BW op k m n).K R):fS P f s o a w R:=by
 have h1:=oW hx (D.ev x)
 have h2:=oW hy (D.ev y)
 have main:∀v X,(∀w,(match op with
  | .add|.sub|.mul=>Op.intArith op k (m ()) (n ())
  | .quo|.rem=>Op.intDiv op k (m ()) (n ())
  | .and|.or|.xor|.andNot=>Op.intBits op k (m ()) (n ())
  | _=>Op.intCmp op (m ()) (n ()):Sem Value).run P w=.ok v w)->rel η (bg s.b) H X v->R X []->fS P f s o a w R:=by
  intro v X hv hX hR
  refine eP D (v:=v) (λw=>?_) hX hR
  have:=ZW hv hs t x y w
  simp only [execOp,ho,h1,h2,Sem.run_bind,this,Result.andThen_ok,Sem.run_pure]
 unfold BW at h
 cases op<;>simp only [eS.K] at h<;>simp only [DY] at hs
 case add=>exact main (.int k _) _ (λw=>rfl) (by simp only [rel]) h
 case sub=>exact main (.int k _) _ (λw=>rfl) (by simp only [rel]) h
 case mul=>exact main (.int k _) _ (λw=>rfl) (by simp only [rel]) h
 case quo=>obtain ⟨⟨h0⟩,h⟩:=h;exact main (.int k _) _ (λw=>by simp only [Op.intDiv,h0,if_false];rfl) (by simp only [rel]) h
 case rem=>obtain ⟨⟨h0⟩,h⟩:=h;exact main (.int k _) _ (λw=>by simp only [Op.intDiv,h0,if_false];rfl) (by simp only [rel]) h
 case and=>exact main (.int k _) _ (λw=>rfl) (by simp only [rel,lB]) h
 case or=>exact main (.int k _) _ (λw=>rfl) (by simp only [rel,lB]) h
 case xor=>exact main (.int k _) _ (λw=>rfl) (by simp only [rel,lB]) h
 case andNot=>exact main (.int k _) _ (λw=>rfl) (by simp only [rel,lB]) h
 case eql=>exact main (.bool _) _ (λw=>rfl) (by simp only [rel,aV]) h
 case neq=>exact main (.bool _) _ (λw=>rfl) (by simp only [rel,aV,bne]) h
 case lss=>exact main (.bool _) _ (λw=>rfl) (by simp only [rel,aS]) h
 case leq=>exact main (.bool _) _ (λw=>rfl) (by simp only [rel,cR]) h
 case gtr=>exact main (.bool _) _ (λw=>rfl) (by simp only [rel,aS]) h
 case geq=>exact main (.bool _) _ (λw=>rfl) (by simp only [rel,cR]) h
 all_goals first|exact h.elim|cases hs
theorem amM {op:BinOp} {k:IntKind} {m n:Int} (h:(GX op k m n).K R) :
  ∃X,R X []/\DY op=false/\∀(v:Value) (η:Nat->Value) (q:Nat->Live) (H:bQ) (Y:SV),
   (BW op k (λ_=>m) (λ_=>n))=.pure Y []->rel η q H Y v->rel η q H X v:=by
 cases op<;>simp only [GX,eS.K] at h
 case add|sub|mul|eql|neq|lss|leq|gtr|geq =>
  refine ⟨_,h,rfl,λv η q H Y hY hr=>?_⟩
  simp only [BW,eS.pure.injEq,and_true] at hY
  subst hY
  simpa only [rel] using hr
 all_goals exact h.elim
theorem arS (D:Den f s η H a w) (op:UnOp) (t:TypeId) (x:Operand) (ho:o.op=.unOp op t x) (h:(Qh op (Vc.ev s x)).K R):fS P f s o a w R:=by
 have hx:=D.ev x
 unfold Qh at h
 split at h<;>first|exact h.elim|skip
 all_goals
  rename_i e
  rw [e] at hx
  simp only [rel] at hx
 case h_3 =>
  rename_i d p _
  obtain ⟨c,hc,hp⟩:=hx
  refine eP D (v:=.bool (!c)) (λw=>by simp [execOp,ho,hc,Op.unary]) (by simp only [rel];exact ⟨!c,rfl,λe=>hp (by cases c<;>cases d<;>simp_all)⟩) h
 all_goals
  refine eP D (v:=_) (λw=>by simp [execOp,ho,hx,Op.unary,Op.intArith];rfl) (by simp [rel]) h
theorem ao0 (C:X.Ok P) (D:Den f s η H a w) (src dst:TypeId) (x:Operand) (ho:o.op=.convert src dst x) (h:(ON X src dst (Vc.ev s x)).K R):fS P f s o a w R:=by
 have hx:=D.ev x
 unfold ON at h
 split at h
 ·rename_i i j hi hj
  have Ii:=C.tt _ _ hi
  have Ij:=C.tt _ _ hj
  have Xe:∃d,P.underlying src=some d:=by
   have:=Ii.desc
   split at this
   all_goals first
    | exact ⟨_,this⟩
    | (obtain ⟨d,h,_⟩:=this;exact ⟨_,h⟩)
  obtain ⟨d,hd⟩:=Xe
  have CL:=Ij.desc
  split at h<;>first|exact h.elim|skip
  ·rename_i k k' n e1 e2
   rw [e1] at CL;rw [e2] at hx
   simp only [rel] at hx
   refine eP D (v:=.int k (k.wrap n)) (λw=>by simp [execOp,ho,hx,convert,run_underlying hd,run_underlying CL,Conv.intToInt]) (by simp [rel]) h
  ·rename_i k k' n e1 e2
   rw [e1] at CL;rw [e2] at hx
   simp only [rel] at hx
   refine eP D (v:=.int k (k.wrap (n ()))) (λw=>by simp [execOp,ho,hx,convert,run_underlying hd,run_underlying CL,Conv.intToInt]) (by simp [rel]) h
  ·rename_i y e1 e2
   rw [e1] at CL;rw [e2] at hx
   simp only [rel] at hx
   refine eP D (v:=.string (y ())) (λw=>by simp [execOp,ho,hx,convert,run_underlying hd,run_underlying CL]) (by simp [rel]) h
 ·exact h.elim
end
section
variable {P:Program} {X:Ctx} {f:Fr} {s:St} {η:Nat->Value} {H:bQ} {a:Act} {w:World} {o:Oper} {R:SV->List (Nat × Slot)->Prop}
theorem acb {q:Nat->Live} {x y:SV} {u v:Value} {g:Unit->Bool} (he:Pr x y=some g) (hx:rel η q H x u) (hy:rel η q H y v) :
  B6 u v=g ()/\vH u v=true:=by
 unfold Pr at he
 split at he
 case h_10=>cases he
 all_goals
  simp only [rel] at hx hy
  subst hx
  subst hy
 case h_1|h_2|h_3|h_4=>simp at he;subst he;exact ⟨rfl,rfl⟩
 case h_5|h_6|h_7|h_8 =>
  split at he
  ·rename_i hk;subst hk;simp at he;subst he;exact ⟨rfl,by simp [vH]⟩
  ·cases he
 case h_9=>simp at he;subst he;exact ⟨rfl,rfl⟩
theorem S3 {q:Nat->Live}:∀{xs ys:List SV} {us vs:List Value} {g:Unit->Bool},B8 xs ys=some g->a_ η q H xs us->a_ η q H ys vs ->
  tz us vs=g ()/\qT us vs=true
 | [],[],us,vs,g,he,hx,hy=>by
  simp only [a_] at hx hy;subst hx;subst hy;simp [B8] at he;subst he;exact ⟨rfl,rfl⟩
 | x :: xs,y :: ys,us,vs,g,he,hx,hy=>by
  simp only [a_] at hx hy
  obtain ⟨u,us,rfl,h1,h2⟩:=hx
  obtain ⟨v,vs,rfl,h3,h4⟩:=hy
  simp only [B8] at he
  split at he
  ·rename_i f g' hf hg
   simp at he;subst he
   have a1:=acb hf h1 h3
   have a2:=S3 hg h2 h4
   simp [tz,qT,a1,a2]
  ·cases he
 | [],y :: ys,us,vs,g,he,hx,hy=>by simp [B8] at he
 | x :: xs,[],us,vs,g,he,hx,hy=>by simp [B8] at he
theorem run_equalIn_bool {t:TypeId} (hd:P.underlying t=some .bool) (d:Nat) (x y:Bool) (w:World) :
  (Op.equalIn (d+1) t (.bool x) (.bool y)).run P w=.ok (x == y) w:=by
 simp [Op.equalIn,run_underlying hd]
theorem run_equal_bool {t:TypeId} (hd:P.underlying t=some .bool) (x y:Bool) (w:World) :
 (Op.equal t (.bool x) (.bool y)).run P w=.ok (x == y) w:=run_equalIn_bool hd 9999 x y w
theorem al1 {q:Nat->Live} {x y:SV} {u v:Value} {p:Unit->Prop} (hp:Ue x y=some p) (hx:rel η q H x u) (hy:rel η q H y v) :
  ∃a n c b m d,u=.slice a n c/\v=.slice b m d/\(a=none\/b=none)/\((a.isNone&&b.isNone)=true->p ()):=by
 have own:∀{l:Nat} {u:Value},rel η q H (.own l) u->∃a n c,u=.slice a n c:=by
  intro l u h
  simp only [rel] at h
  split at h
  ·exact h.elim
  ·exact h
  ·exact h.2
 unfold Ue at hp
 split at hp<;>simp at hp
 ·subst hp
  simp only [rel] at hx hy
  obtain ⟨⟨ad,cap,h1,h2,h3⟩,_⟩:=hx
  refine ⟨_,_,_,_,_,_,h1,hy,.inr rfl,λh=>?_⟩
  rcases h3 with h3|⟨a,rfl,_⟩
  ·exact h3
  ·simp at h
 ·subst hp
  simp only [rel] at hx hy
  obtain ⟨⟨ad,cap,h1,h2,h3⟩,_⟩:=hy
  refine ⟨_,_,_,_,_,_,hx,h1,.inl rfl,λh=>?_⟩
  rcases h3 with h3|⟨a,rfl,_⟩
  ·exact h3
  ·simp at h
 ·subst hp
  obtain ⟨a,n,c,h⟩:=own hx
  simp only [rel] at hy
  exact ⟨_,_,_,_,_,_,h,hy,.inr rfl,λ_=>trivial⟩
 ·subst hp
  obtain ⟨a,n,c,h⟩:=own hy
  simp only [rel] at hx
  exact ⟨_,_,_,_,_,_,hx,h,.inl rfl,λ_=>trivial⟩
theorem akG {t e:TypeId} (hd:P.underlying t=some (.slice e)) (k:Nat) (a b:Option Addr) (n c m d:Nat) (jT:a=none\/b=none) (w:World) :
  (Op.equalIn (k+1) t (.slice a n c) (.slice b m d)).run P w=.ok (a.isNone&&b.isNone) w:=by
 rcases jT with rfl|rfl
 ·simp [Op.equalIn,run_underlying hd]
 ·cases a<;>simp [Op.equalIn,run_underlying hd]
theorem RJ {t e:TypeId} (hd:P.underlying t=some (.slice e)) (a b:Option Addr) (n c m d:Nat) (jT:a=none\/b=none) (w:World) :
 (Op.equal t (.slice a n c) (.slice b m d)).run P w=.ok (a.isNone&&b.isNone) w:=akG hd 9999 a b n c m d jT w
theorem akK {t k e:TypeId} (hd:P.underlying t=some (.map k e)) (d:Nat) (a b:Option Nat) (jT:a=none\/b=none) (w:World) :
  (Op.equalIn (d+1) t (.map a) (.map b)).run P w=.ok (a.isNone&&b.isNone) w:=by
 unfold Op.equalIn
 simp only [Sem.run_bind,run_underlying hd,Result.andThen_ok]
 rcases jT with rfl|rfl
 ·simp
 ·cases a<;>simp
theorem Zd {t k e:TypeId} (hd:P.underlying t=some (.map k e)) (a b:Option Nat) (jT:a=none\/b=none) (w:World) :
 (Op.equal t (.map a) (.map b)).run P w=.ok (a.isNone&&b.isNone) w:=akK hd 9999 a b jT w
theorem aak {q:Nat->Live} {x y:SV} {v u:Value} {d:Bool} {p:Unit->Prop} (h:Uf x y=some (d,p)) (hx:rel η q H x v) (hy:rel η q H y u) (hp:p ()) :
  ∃a b:Option Nat,v=.map a/\u=.map b/\(a=none\/b=none)/\d=(a.isNone&&b.isNone):=by
 unfold Uf at h
 split at h<;>simp at h
 ·obtain ⟨rfl,rfl⟩:=h
  simp only [rel] at hx hy
  exact ⟨none,none,hx.trans hp.1,hy.trans hp.2,.inl rfl,rfl⟩
 ·obtain ⟨rfl,rfl⟩:=h
  simp only [rel] at hx hy
  obtain ⟨jU,n,hn⟩:=hp
  rcases hx.1 with ⟨_,h2⟩|⟨r,_,_,h1,_⟩
  ·exact absurd (h2 n) hn
  ·exact ⟨some r,none,h1,hy.trans jU,.inr rfl,rfl⟩
 ·obtain ⟨rfl,rfl⟩:=h
  simp only [rel] at hx hy
  obtain ⟨jU,n,hn⟩:=hp
  rcases hy.1 with ⟨_,h2⟩|⟨r,_,_,h1,_⟩
  ·exact absurd (h2 n) hn
  ·exact ⟨none,some r,hx.trans jU,h1,.inl rfl,rfl⟩
theorem aqf (C:X.Ok P) (D:Den f s η H a w) (op:BinOp) (t t':TypeId) (x y:Operand) (ho:o.op=.binOp op t x y t')
  (h:(Ps X op t (Vc.ev s x) (Vc.ev s y)).K R):fS P f s o a w R:=by
 have hx:=D.ev x
 have hy:=D.ev y
 unfold Ps at h
 split at h
 ·rename_i hs
  split at h
  ·rename_i k m k' n h1 h2
   obtain ⟨⟨h0⟩,h⟩:=h
   have e1:=oW h1 hx
   have e2:=oW h2 hy
   have hn:¬n () < 0:=by omega
   cases op<;>simp only [DY] at hs<;>first|cases hs|skip
   ·refine eP D (v:=.int k (k.wrap (m ()*2^min (n ()).toNat k.bits))) (λw=>?_) (by simp only [rel]) h
    simp [execOp,ho,e1,e2,eqGuard,binOp,Op.shift,hn]
   ·refine eP D (v:=.int k ((m ()).fdiv (2^min (n ()).toNat k.bits))) (λw=>?_) (by simp only [rel]) h
    simp [execOp,ho,e1,e2,eqGuard,binOp,Op.shift,hn]
  ·exact h.elim
 ·rename_i hs
  split at h
  ·rename_i k m k' n hl ex ey
   split at h
   ·rename_i hk
    subst hk
    obtain ⟨Y,hR,_,hY⟩:=amM h
    have hp:∃Z,BW op k (λ_=>m) (λ_=>n)=.pure Z []:=by
     cases op<;>simp only [GX,eS.K] at h<;>first|exact h.elim|exact ⟨_,rfl⟩
    obtain ⟨Z,hZ⟩:=hp
    have e1:a.eval x=.int k m:=by rw [ex] at hx;simpa only [rel] using hx
    have e2:a.eval y=.int k n:=by rw [ey] at hy;simpa only [rel] using hy
    have main:∀v,(∀w,(match op with
      | .add|.sub|.mul=>Op.intArith op k m n
      | .quo|.rem=>Op.intDiv op k m n
      | .and|.or|.xor|.andNot=>Op.intBits op k m n
      | _=>Op.intCmp op m n:Sem Value).run P w=.ok v w)->rel η (bg s.b) H Z v->fS P f s o a w R:=by
     intro v hv hr
     refine eP D (v:=v) (λw=>?_) (hY v η _ H Z hZ hr) hR
     have:=ZW hv hs t x y w
     simp only [execOp,ho,e1,e2,Sem.run_bind,this,Result.andThen_ok,Sem.run_pure]
    cases op<;>simp only [GX,eS.K] at h<;>first|exact h.elim|skip
    all_goals
     simp only [BW,eS.pure.injEq,and_true] at hZ
     subst hZ
    ·exact main (.int k _) (λw=>rfl) (by simp only [rel])
    ·exact main (.int k _) (λw=>rfl) (by simp only [rel])
    ·exact main (.int k _) (λw=>rfl) (by simp only [rel])
    ·exact main (.bool _) (λw=>rfl) (by simp only [rel,aV])
    ·exact main (.bool _) (λw=>rfl) (by simp only [rel,aV,bne])
    ·exact main (.bool _) (λw=>rfl) (by simp only [rel,aS])
    ·exact main (.bool _) (λw=>rfl) (by simp only [rel,cR])
    ·exact main (.bool _) (λw=>rfl) (by simp only [rel,aS])
    ·exact main (.bool _) (λw=>rfl) (by simp only [rel,cR])
   ·exact h.elim
  ·split at h
   ·rename_i k m k' n h1 h2
    split at h
    ·rename_i hk
     subst hk
     exact amL D op t t' x y ho hs h1 h2 h
    ·exact h.elim
   ·split at h
    ·rename_i m n e1 e2
     rw [e1] at hx;rw [e2] at hy
     simp only [rel] at hx hy
     split at h
     ·obtain ⟨⟨h0⟩,h⟩:=h
      have h3:¬(9223372036854775807 < ((m ()).size:Int)+((n ()).size:Int)):=by omega
      refine eP D (v:=.string (m ()++n ())) (λw=>?_) (by simp only [rel]) h
      simp [execOp,ho,hx,hy,eqGuard,binOp,Op.stringOp,IntKind.max,IntKind.signed,IntKind.bits,h3]
     all_goals first|exact h.elim|skip
     ·refine eP D (v:=.bool _) (λw=>?_) (by simp only [rel];rfl) h
      simp [execOp,ho,hx,hy,eqGuard,binOp,Op.stringOp,yL,yA]
     ·refine eP D (v:=.bool _) (λw=>?_) (by simp only [rel];rfl) h
      simp [execOp,ho,hx,hy,eqGuard,binOp,Op.stringOp,yL,yA]
     ·refine eP D (v:=.bool _) (λw=>?_) (by simp only [rel];rfl) h
      simp [execOp,ho,hx,hy,eqGuard,binOp,Op.stringOp,yL,yA]
     ·refine eP D (v:=.bool _) (λw=>?_) (by simp only [rel];rfl) h
      simp [execOp,ho,hx,hy,eqGuard,binOp,Op.stringOp,yL,yA]
     ·refine eP D (v:=.bool _) (λw=>?_) (by simp only [rel];rfl) h
      simp [execOp,ho,hx,hy,eqGuard,binOp,Op.stringOp,yL,yA]
     ·refine eP D (v:=.bool _) (λw=>?_) (by simp only [rel];rfl) h
      simp [execOp,ho,hx,hy,eqGuard,binOp,Op.stringOp,yL,yA]
    ·rename_i cs ds e1 e2
     split at h
     ·rename_i i hi
      split at h
      ·rename_i hc
       simp only [ei,beq_iff_eq] at hc
       split at h
       ·rename_i g g' hg zc
        have I:=C.tt _ _ hi
        rw [e1] at hx;rw [e2] at hy
        simp only [rel] at hx hy
        obtain ⟨vs,gk,nU⟩:=hx
        obtain ⟨us,fA,ja⟩:=hy
        have a1:=S3 hg nU ja
        have a2:=S3 zc nU (Bz η _ H _)
        have run:=λw Lm=>(I.flat hc.1.1).2 vs us w (by rw [jQ nU];exact hc.1.2) (by rw [jQ ja];exact hc.2) a1.2 a2.2 Lm x y
        split at h
        ·refine eP D (v:=.bool _) (λw=>?_) (by simp only [rel];rw [<-a1.1]) h
         have:=run w .eql (.inl rfl)
         simp only [execOp,ho,gk,fA]
         rw [Sem.run_bind,this]
         simp
        ·refine eP D (v:=.bool _) (λw=>?_) (by simp only [rel];rw [<-a1.1]) h
         have:=run w .neq (.inr rfl)
         simp only [execOp,ho,gk,fA]
         rw [Sem.run_bind,this]
         simp
        ·exact h.elim
       ·exact h.elim
      ·exact h.elim
     ·exact h.elim
    ·split at h
     ·rename_i i hi
      have I:=C.tt _ _ hi
      have hd:=I.desc
      split at h
      ·rename_i ed
       rw [ed] at hd
       split at h
       ·rename_i g m n hg hm hn
        have e1:=Oe hm hx
        have e2:=Oe hn hy
        have a1:=acb hg hx hy
        rw [e1,e2] at a1
        have a3:(m () == n ())=g ():=a1.1
        split at h
        ·refine eP D (v:=.bool (g ())) (λw=>?_) (by simp only [rel]) h
         simp [execOp,ho,e1,e2,eqGuard,binOp,run_equal_bool hd,a3]
        ·refine eP D (v:=.bool (!g ())) (λw=>?_) (by simp only [rel]) h
         simp [execOp,ho,e1,e2,eqGuard,binOp,run_equal_bool hd,a3]
        ·exact h.elim
       ·exact h.elim
      ·rename_i ek e ed
       rw [ed] at hd
       split at h
       ·rename_i d p hp
        split at h
        ·obtain ⟨⟨Fj⟩,h⟩:=h
         obtain ⟨a1,b1,e1,e2,jT,rfl⟩:=aak hp hx hy Fj
         refine eP D (v:=.bool _) (λw=>?_) (by simp only [rel];rfl) h
         simp [execOp,ho,e1,e2,eqGuard,binOp,Zd hd a1 b1 jT]
        ·obtain ⟨⟨Fj⟩,h⟩:=h
         obtain ⟨a1,b1,e1,e2,jT,rfl⟩:=aak hp hx hy Fj
         refine eP D (v:=.bool _) (λw=>?_) (by simp only [rel];rfl) h
         simp [execOp,ho,e1,e2,eqGuard,binOp,Zd hd a1 b1 jT]
        ·exact h.elim
       ·exact h.elim
      ·rename_i e ed
       rw [ed] at hd
       have fin:∀(u b:Option Addr) (n c m d:Nat),a.eval x=.slice u n c->a.eval y=.slice b m d->(u=none\/b=none)->∀(Y:SV) (r:Bool),(op=.eql/\r=(u.isNone&&b.isNone)\/op=.neq/\r=!(u.isNone&&b.isNone)) ->
         rel η (bg s.b) H Y (.bool r)->R Y []->fS P f s o a w R:=by
        intro u b n c m d e1 e2 Qi Y r hr hY hR
        refine eP D (v:=.bool r) (λw=>?_) hY hR
        rcases hr with ⟨rfl,rfl⟩|⟨rfl,rfl⟩<;>simp [execOp,ho,e1,e2,eqGuard,binOp,RJ hd u b n c m d Qi]
       split at h
       ·rename_i p hp
        obtain ⟨u,n,c,b,m,d,e1,e2,Qi,hq⟩:=al1 hp hx hy
        split at h
        ·exact fin u b n c m d e1 e2 Qi _ _ (.inl ⟨rfl,rfl⟩) (by simp only [rel];exact ⟨_,rfl,hq⟩) h
        ·exact fin u b n c m d e1 e2 Qi _ _ (.inr ⟨rfl,rfl⟩) (by simp only [rel];exact ⟨_,rfl,λe=>hq (by simpa using e)⟩) h
        ·exact h.elim
       ·split at h
        ·rename_i e1 e2 _
         rw [e1] at hx;rw [e2] at hy
         simp only [rel] at hx hy
         exact fin _ _ _ _ _ _ hx hy (.inl rfl) _ _ (.inl ⟨rfl,rfl⟩) (by simp only [rel];rfl) h
        ·rename_i e1 e2 _
         rw [e1] at hx;rw [e2] at hy
         simp only [rel] at hx hy
         exact fin _ _ _ _ _ _ hx hy (.inl rfl) _ _ (.inr ⟨rfl,rfl⟩) (by simp only [rel];rfl) h
        ·exact h.elim
      ·exact h.elim
     ·exact h.elim
end
theorem SG {H:bQ} {w:World} (h:H.j6 w) {b o:Nat} {u:Value} (hc:sH H b o=some u):w.cell? ⟨b,o,none⟩=some u:=by
 unfold sH at hc
 split at hc
 ·rename_i c e fz he
  simp [World.cell?,h b _ he,hc]
 ·cases hc
theorem uG (b o j:Nat):(⟨b,o,none⟩:Addr).add j=⟨b,o+j,none⟩:=by
 unfold Addr.add
 split
 ·rename_i h;subst h;simp
 ·rfl
theorem qR (a:Addr) (h:a.spot=none) (j:Nat):a.add j=⟨a.block,a.off+j,none⟩:=by
 obtain ⟨b,o,s⟩:=a
 simp at h;subst h
 exact uG b o j
section
variable {P:Program} {X:Ctx} {f:Fr} {s:St} {η:Nat->Value} {H:bQ} {a:Act} {w:World} {o:Oper} {R:SV->List (Nat × Slot)->Prop}
theorem oZ.Xe {t:TypeId} {i:TI} (I:oZ P t i):∃d,P.underlying t=some d/\((∃x,d=.struct x)\/(∃n e,d=.array n e)↔i.agg=true):=by
 have:=I.desc
 unfold TI.agg
 split at this
 all_goals first
  | exact ⟨_,this,by simp [*]⟩
  | (obtain ⟨fs,h,_⟩:=this;exact ⟨_,h,by simp [*]⟩)
  | (obtain ⟨d,h,h1,h2⟩:=this;exact ⟨d,h,by simp [*]⟩)
theorem Nt {t:TypeId} {i:TI} (I:oZ P t i) (w:World):(isAgg t).run P w=.ok i.agg w:=by
 obtain ⟨d,hd,h⟩:=I.Xe
 unfold isAgg
 cases hq:i.agg<;>rw [hq] at h<;>simp at h
 ·obtain ⟨h1,h2⟩:=h
  simp only [Sem.run_bind,run_underlying hd,Result.andThen_ok]
  first|rfl|(split<;>first|rfl|(exfalso;simp_all))
 ·simp only [Sem.run_bind,run_underlying hd,Result.andThen_ok]
  rcases h with ⟨x,rfl⟩|⟨n,e,rfl⟩<;>rfl
theorem run_sizeOf {t:TypeId} {i:TI} (I:oZ P t i) (w:World):(sizeOf t).run P w=.ok i.size w:=by
 obtain ⟨inf,h1,h2,_⟩:=I.info
 simp [sizeOf,typeInfo,h1,h2]
theorem ZA {t:TypeId} {i:TI} (I:oZ P t i) (w:World) (b o:Nat) (vals:List Value) (hl:i.size<=vals.length)
  (hc:∀j u,vals[j]?=some u->w.cell? ⟨b,o+j,none⟩=some u) :
  (loadVar t ⟨b,o,none⟩).run P w=.ok (if i.agg then .agg (vals.take i.size).toArray else vals.getD 0 undef) w:=by
 unfold loadVar
 simp only [Sem.run_bind,Nt I,Result.andThen_ok]
 cases hq:i.agg
 ·simp only [jr,if_false,run_load]
  cases vals with
  | nil=>have:=I.pos;simp at hl;omega
  | cons v r =>
   have:=hc 0 v (by simp)
   simp only [vB] at this
   simp [this]
 ·simp only [if_true,Sem.run_bind,run_sizeOf I,Result.andThen_ok]
  have:=run_loadCells_list (P:=P) (w:=w) ⟨b,o,none⟩ (vals.take i.size) (λj v hv=>by
   rw [uG]
   rw [sA] at hv
   split at hv
   ·exact hc j v hv
   ·cases hv)
  rw [lu,DJ hl] at this
  simp [this]
theorem Js {q:Nat->Live} {t:TypeId} {i:TI} (I:oZ P t i) {cs:List SV} {vs:List Value} {off:Nat} {x:SV} (hg:vL i cs off=some x) (h:a_ η q H cs vs) :
  i.size<=(vs.drop off).length/\rel η q H x (if i.agg then .agg ((vs.drop off).take i.size).toArray else (vs.drop off).getD 0 undef):=by
 have hl:=jQ h
 unfold vL at hg
 split at hg
 ·rename_i hle
  refine ⟨by simp;omega,?_⟩
  split at hg
  ·rename_i hq
   simp at hg;subst hg
   simp only [hq,if_true,rel]
   exact ⟨_,rfl,Gm (Gl h off) i.size⟩
  ·rename_i hq
   simp only [hq,if_false,jr]
   obtain ⟨u,h1,h2⟩:=uF h off x hg
   have:(vs.drop off).getD 0 undef=u:=by simp [gW,lq,h1]
   rw [this];exact h2
 ·cases hg
theorem ao1 (C:X.Ok P) (D:Den f s η H a w) (t:TypeId) (x:Operand) (ho:o.op=.load t x) (h:(Es X s.b t (Vc.ev s x)).K R):fS P f s o a w R:=by
 have hx:=D.ev x
 unfold Es at h
 split at h
 ·exact h.elim
 rename_i i hi
 have I:=C.tt _ _ hi
 have fin:∀(b off:Nat) (vals:List Value) (cs:List SV) (xt:Nat) (y:SV),a.eval x=.pointer (some ⟨b,off,none⟩)->a_ η (bg s.b) H cs vals ->
   (∀j u,(vals.drop xt)[j]?=some u->w.cell? ⟨b,off+j,none⟩=some u)->vL i cs xt=some y->R y []->fS P f s o a w R:=by
  intro b off vals cs xt y hp hr hc hg hR
  obtain ⟨h1,h2⟩:=Js I hg hr
  refine Ad D (v:=_) (w':=w) ?_ (qQ w none) h2 hR
  simp only [execOp,ho,hp,Sem.run_bind,Instr.loadAt,Instr.sureAddr,Sem.run_pure,Result.andThen_ok,ZA I w b off _ h1 hc]
 split at h
 ·rename_i l off ex
  rw [ex] at hx
  split at h
  ·rename_i e cs hs
   split at h
   ·rename_i v hv
    simp only [rel,dg hs,Slot.live] at hx
    obtain ⟨bl,h1,h2⟩:=hx
    obtain ⟨lV,vs,h3,h4,h5⟩:=D.sl l _ hs
    rw [h1] at h3
    simp at h3;subst h3
    refine fin bl off vs.toList cs off v h2 h5 (λj u hu=>?_) hv h
    rw [lq] at hu
    rw [cell_of_row w bl (off+j) vs e (0,0) h4]
    simpa using hu
   ·exact h.elim
  ·exact h.elim
 ·rename_i cs off ex
  rw [ex] at hx
  split at h
  ·rename_i v hv
   simp only [rel] at hx
   obtain ⟨ad,h1,vals,h2,h3⟩:=hx
   refine fin ad.block (ad.off+off) vals cs off v h1 h2 (λj u hu=>?_) hv h
   rw [lq] at hu
   have:=SG D.hw (h3 _ u hu)
   rwa [<-Nat.add_assoc] at this
  ·exact h.elim
 ·rename_i l sz j off ex
  rw [ex] at hx
  split at h
  ·rename_i T e k7 c xs hs
   split at h
   ·rename_i dY
    subst dY
    obtain ⟨y,⟨hy,hg⟩,hR⟩:=h
    simp only [rel,dg hs,Slot.live] at hx
    obtain ⟨bl,n,cap,h1,h2⟩:=hx
    obtain ⟨vals,pO,h4,h5,mV⟩:=D.sl l _ hs
    have h3:=pO.pos (show 0 < (xs ()).length by have:=(bX.1 hy).1;omega)
    have h6:=DA h5 h4 (j ()) y hy
    have hc:=h3.cells (g:=bl) (by rw [h1];rfl)
    obtain ⟨z,hz⟩:=uB.1 hg
    simp only [hz,nM] at hR
    refine fin bl (j ()*sz+off) _ (c y) off z h2 (ez.up (bQ.le.refl H) h6) (λk u hu=>?_) hz hR
    rw [lq,sA] at hu
    split at hu
    ·rw [lq] at hu
     have:=hc _ u hu
     rw [uG] at this
     simpa [Nat.add_assoc] using this
    ·cases hu
   ·exact h.elim
  ·exact h.elim
 ·exact h.elim
theorem Y_:∀(ys cs:List SV) (off:Nat),(sC cs off ys).length=cs.length
 | [],cs,off=>rfl
 | y :: ys,cs,off=>by simp [sC,Y_ ys]
theorem MQ {q:Nat->Live}:∀{ys:List SV} {us:List Value} {cs:List SV} {vs:List Value} {off:Nat},a_ η q H ys us->a_ η q H cs vs->off+ys.length<=cs.length ->
  a_ η q H (sC cs off ys) (vs.take off++us++vs.drop (off+us.length))
 | [],us,cs,vs,off,hy,hc,hl=>by
  simp only [a_] at hy;subst hy;simpa [sC] using hc
 | y :: ys,us,cs,vs,off,hy,hc,hl=>by
  simp only [a_] at hy
  obtain ⟨u,us,rfl,h1,h2⟩:=hy
  have hlen:=jQ hc
  simp at hl
  have:=MQ (cs:=cs.set off y) (vs:=vs.set off u) (off:=off+1) h2 (yw hc off h1) (by simp;omega)
  have CM:=jQ h2
  rw [list_seg_step vs off u us (by omega)] at this
  simpa [sC] using this
theorem Zk {t:TypeId} {i:TI} (I:oZ P t i) {v:Value} (hv:v.cells.size=i.size) (h1:∀u∈v.cells.toList,u.oneCell'=true) (w:World) (b off:Nat) (cur:Array Value) (e:TypeId)
  (hg:w.heap[b]?=some (.cells cur e (0,0))) (tG:off+i.size<=cur.size) :
  (storeVar t ⟨b,off,none⟩ v).run P w=.ok () (w.setRow b (cur.toList.take off++v.cells.toList++cur.toList.drop (off+v.cells.toList.length)).toArray):=by
 have:=run_storeCells_at P b off e v.cells.toList 0 cur w hg (by simpa [hv] using tG) h1
 simp only [vB] at this
 simp [storeVar,run_sizeOf I,hv,this]
theorem MT (w:World) (b:Nat) (cs:Array Value):w.grownBy (w.setRow b cs) (some b) :=
 ⟨rfl,rfl,rfl,by simp,λk _ hk=>setRow_other w b k _ (λe=>hk (by rw [e]))⟩
theorem amN (l us:List Value) (k m:Nat) (h1:k+us.length<=m) (h2:m<=l.length) :
  (l.take k++us++l.drop (k+us.length)).take m=(l.take m).take k++us++(l.take m).drop (k+us.length):=by
 rw [Sw,DJ (by omega),Gh,Sn,DN (by simp;omega)]
 simp only [fZ,lu,DJ (show k<=l.length by omega)]
theorem Za:∀(ys cs ds:List SV) (off:Nat),off+ys.length<=cs.length->sC (cs++ds) off ys=sC cs off ys++ds
 | [],cs,ds,off,_=>rfl
 | y :: ys,cs,ds,off,h=>by
  simp at h
  simp only [sC]
  rw [List.set_append_left _ _ (by omega),Za ys _ ds _ (by simp;omega)]
theorem acd {T:Type} {q:Nat->Live} {c:T->List SV} {sz:Nat} (mV:∀x,dm (c x)/\(c x).all SV.one=true) {us:List Value} {ys:List SV} {off:Nat} {y1 y2:T}
  (uV:(c y2).length=sz) (hle:dT (sC (c y1) off ys) (c y2)) (hy:a_ η q H ys us) (afV:off+us.length<=sz) :
  ∀{xs:List T} {vals:List Value} {j:Nat},(∀x∈xs,(c x).length=sz)->ez H (xs.flatMap c) vals->xs[j]?=some y1 ->
  (vals.take (j*sz+off)++us++vals.drop (j*sz+off+us.length)).length=vals.length /\
  ez H ((xs.set j y2).flatMap c) (vals.take (j*sz+off)++us++vals.drop (j*sz+off+us.length))
 | [],vals,j,_,_,hj=>by simp at hj
 | x :: r,vals,0,h5,h4,hj=>by
  simp at hj;subst hj
  have hx:(c x).length=sz:=h5 x (by simp)
  have CM:=jQ hy
  simp only [Nat.zero_mul,sB,List.set_cons_zero]
  rw [yt] at h4 ⊢
  have mq:=jQ h4
  simp only [fZ,hx] at mq
  refine ⟨by simp;omega,?_⟩
  have h1:a_ η q H (c x++r.flatMap c) vals:=ez.up (bQ.le.refl H) h4
  have h2:=MQ (off:=off) hy h1 (by simp;omega)
  rw [Za _ _ _ _ (by omega)] at h2
  obtain ⟨h3,_⟩:=I1 h2
  rw [Y_,hx] at h3
  have h6:=lx _ _ (mV y2).1 (kC hle h3) (η':=λ_=>.nilIface) (q':=λ_=>.un)
  obtain ⟨_,h7⟩:=I1 h4
  have h8:=jx h6 h7
  rw [hx] at h8
  have e:(vals.take off++us++vals.drop (off+us.length))=(vals.take off++us++vals.drop (off+us.length)).take sz++vals.drop sz:=by
   conv=>lhs;rw [<-List.take_append_drop sz (vals.take off++us++vals.drop (off+us.length))]
   congr 1
   rw [List.drop_append,List.drop_eq_nil_of_le (by simp;omega),kQ,List.drop_drop]
   congr 1
   simp
   omega
  rw [e]
  exact h8
 | x :: r,vals,j+1,h5,h4,hj=>by
  have hx:(c x).length=sz:=h5 x (by simp)
  rw [yt] at h4
  obtain ⟨h6,h7⟩:=I1 h4
  rw [hx] at h6 h7
  have mq:=jQ h4
  simp only [fZ,hx] at mq
  obtain ⟨i1,i2⟩:=acd mV uV hle hy afV (xs:=r) (λz hz=>h5 z (by simp [hz])) h7 (by simpa using hj)
  have e:vals.take ((j+1)*sz+off)++us++vals.drop ((j+1)*sz+off+us.length) =
    vals.take sz++((vals.drop sz).take (j*sz+off)++us++(vals.drop sz).drop (j*sz+off+us.length)):=by
   rw [show (j+1)*sz+off=sz+(j*sz+off) by rw [Nat.add_mul];omega,List.take_add,List.drop_drop]
   simp [Nat.add_assoc]
  rw [e]
  refine ⟨by rw [fZ,i1];simp;omega,?_⟩
  rw [Gd,yt]
  exact jx h6 i2
theorem anU (C:X.Ok P) (D:Den f s η H a w) (t:TypeId) (x y:Operand) (ho:o.op=.store t x y) (hd:o.dst=none)
  (h:(BY X s.b t (Vc.ev s x) (Vc.ev s y)).K R):fS P f s o a w R:=by
 have hx:=D.ev x
 have hy:=D.ev y
 unfold BY at h
 split at h
 case h_2=>exact h.elim
 rename_i i ys hi sd
 have I:=C.tt _ _ hi
 obtain ⟨fA,ja⟩:=S2 sd hy
 split at h
 case isFalse=>exact h.elim
 rename_i hlen
 have zd:(a.eval y).cells.size=i.size:=by have:=jQ fA;simp at this;omega
 split at h
 ·rename_i l off ex
  rw [ex] at hx
  split at h
  ·rename_i e cs hs
   split at h
   ·rename_i tG
    simp only [rel,dg hs,Slot.live] at hx
    obtain ⟨bl,h1,h2⟩:=hx
    obtain ⟨lV,vs,h3,h4,h5⟩:=D.sl l _ hs
    rw [h1] at h3
    simp at h3;subst h3
    have mq:=jQ h5
    simp at mq
    have ec:bg s.b l=.live:=by rw [dg hs];rfl
    have VD:=MQ (off:=off) fA h5 (by omega)
    have D':=D.change (η':=η) (l:=l) (x:=.fix e (sC cs off ys)) none (b':=s.b.set l (.fix e (sC cs off ys))) rfl (λ_ _=>rfl) (.inr ⟨ec,rfl,rfl⟩) rfl
     (λ_ h=>by cases h) (some bl) (MT w bl _) (λk hk=>.inr ⟨ec,by simp at hk;subst hk;rw [h1];rfl⟩)
     (λb hb=>.inr (.inr ⟨ec,hb⟩)) (λT=>⟨bl,_,h1,setRow_heap w bl vs _ e _ h4,iS T (bQ.le.refl H) _ _ VD⟩)
    refine ⟨_,_,h,λK Q hk=>?_⟩
    unfold Oper.wp
    have hr:=Zk I zd ja w bl off vs e h4 (by omega)
    simp only [execOp,ho,h2,Sem.run_bind,Instr.storeAt,Instr.sureAddr,Sem.run_pure,Result.andThen_ok,hr]
    refine hk η H _ undef ?_
    rw [hd]
    exact D'
   ·exact h.elim
  ·exact h.elim
 ·rename_i l sz j off ex
  rw [ex] at hx
  split at h
  ·rename_i T e k7 c xs hs
   split at h
   ·rename_i hc
    obtain ⟨dY,afV⟩:=hc
    subst dY
    obtain ⟨⟨y1,y2⟩,⟨hj,uV,hle⟩,hR⟩:=h
    simp only at hj uV hle hR
    simp only [rel,dg hs,Slot.live] at hx
    obtain ⟨bl,n,cap,h1,h2⟩:=hx
    obtain ⟨vals,pO,h4,h5,mV⟩:=D.sl l _ hs
    have h3:=pO.pos (show 0 < (xs ()).length by have:=(bX.1 hj).1;omega)
    have ec:bg s.b l=.live:=by rw [dg hs];rfl
    rcases h3.2 with ⟨hn,_⟩|⟨g,uN,cur,hg,_,oB,Av,v_,k8,vM⟩
    ·rw [h1] at hn;cases hn
    have Ci:g=bl:=by rw [h1] at hg;simp at hg;exact hg.1.symm
    subst Ci
    have eA:j () < (xs ()).length:=(bX.1 hj).1
    have hmul:(j ()+1)*sz<=(xs ()).length*sz:=I8 _ eA
    rw [Nat.add_mul,Nat.one_mul] at hmul
    have mq:=h3.1
    have EL:(xs ()).length*sz<=uN*sz:=I8 _ Av
    have hr:=Zk I zd ja w g (j ()*sz+off) cur e oB (by rw [k8];omega)
    have o8:(a.eval y).cells.toList.length=i.size:=by simpa using zd
    obtain ⟨UI,aqg⟩:=acd (us:=(a.eval y).cells.toList) mV uV hle fA (by omega) h5 h4 hj
    have yV:w.ownsRow 0 e sz (η l) (xs ()).length vals:=h3
    have D':=D.change (w':=w.setRow g (cur.toList.take (j ()*sz+off)++(a.eval y).cells.toList++cur.toList.drop (j ()*sz+off+(a.eval y).cells.toList.length)).toArray) (η':=η) (l:=l) (x:=.dyn e sz c λ_=>(xs ()).set (j ()) y2) none (b':=s.b.set l (.dyn e sz c λ_=>(xs ()).set (j ()) y2)) rfl (λ_ _=>rfl)
     (.inr ⟨ec,rfl,rfl⟩) rfl (λ_ h=>by cases h) (some g) (MT w g _) (λk hk=>.inr ⟨ec,by simp at hk;subst hk;rw [hg];simp only [dt];rw [if_neg (by omega)]⟩)
     (λb hb=>.inr (.inr ⟨ec,hb⟩)) (λT=>⟨_,.of ⟨by simpa [mq] using UI,.inr ⟨g,uN,_,by simpa using hg,cJ _,setRow_heap w g cur _ e _ oB,by simpa using Av,v_,?_,?_⟩⟩,aqg,?_,mV⟩)
    ·refine ⟨_,_,hR,λK Q hk=>?_⟩
     unfold Oper.wp
     simp only [execOp,ho,h2,Sem.run_bind,Instr.storeAt,Instr.sureAddr,Sem.run_pure,Result.andThen_ok,hr]
     refine hk η H _ undef ?_
     rw [hd]
     exact D'
    ·simp only [Ja,fZ,lu,vy,z_,o8]
     omega
    ·simp only [kB]
     rw [amN _ _ _ _ (by omega) (by simp;omega),vM]
    ·intro z hz
     rcases R9 hz with hz|rfl
     ·exact h5 z hz
     ·exact uV
   ·exact h.elim
  ·exact h.elim
 ·exact h.elim
end
end Go.Vc
