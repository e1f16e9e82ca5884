import Derived.Test.YthnhbemmlfaihaaGreatO1
import Derived.Maps.AppendAt
set_option linter.unusedVariables false
set_option linter.unusedSimpArgs false
set_option maxRecDepth 10000
set_option maxHeartbeats 64000000
namespace Go.Vc
open Go
section
variable {P:Program} {X:Ctx} {f:Fr} {s:St} {η:Nat->Value} {H:bu} {a:Act} {w:World} {o:Oper} {R:SV->List (Nat × Slot)->Prop}
theorem YU {q:Nat->Live} {x y:SV} {u v:Value} {g:Unit->Bool} (he:MF x y=some g) (hx:rel η q H x u) (hy:rel η q H y v) :
  Aj u v=g ()/\um u v=true:=by
 unfold MF at he
 split at he
 case h_10=>cases he
 all_goals
  simp only [rel] at hx hy
  subst hx
  subst hy
 case h_1|h_2|h_3|h_4=>simp at he;subst he;exact ⟨rfl,rfl⟩
 case h_5|h_6|h_7|h_8 =>
  split at he
  ·rename_i hk;subst hk;simp at he;subst he;exact ⟨rfl,by simp [um]⟩
  ·cases he
 case h_9=>simp at he;subst he;exact ⟨rfl,rfl⟩
theorem P6 {q:Nat->Live}:∀{xs ys:List SV} {us vs:List Value} {g:Unit->Bool},Al xs ys=some g->aP η q H xs us->aP η q H ys vs ->
  rV us vs=g ()/\pH us vs=true
 | [],[],us,vs,g,he,hx,hy=>by
  simp only [aP] at hx hy;subst hx;subst hy;simp [Al] at he;subst he;exact ⟨rfl,rfl⟩
 | x :: xs,y :: ys,us,vs,g,he,hx,hy=>by
  simp only [aP] at hx hy
  obtain ⟨u,us,rfl,h1,h2⟩:=hx
  obtain ⟨v,vs,rfl,h3,h4⟩:=hy
  simp only [Al] at he
  split at he
  ·rename_i f g' hf hg
   simp at he;subst he
   have a1:=YU hf h1 h3
   have a2:=P6 hg h2 h4
   simp [rV,pH,a1,a2]
  ·cases he
 | [],y :: ys,us,vs,g,he,hx,hy=>by simp [Al] at he
 | x :: xs,[],us,vs,g,he,hx,hy=>by simp [Al] at he
theorem run_equalIn_bool {t:TypeId} (hd:P.underlying t=some .bool) (d:Nat) (x y:Bool) (w:World) :
  (Op.equalIn (d+1) t (.bool x) (.bool y)).run P w=.ok (x == y) w:=by
 simp [Op.equalIn,run_underlying hd]
theorem run_equal_bool {t:TypeId} (hd:P.underlying t=some .bool) (x y:Bool) (w:World) :
 (Op.equal t (.bool x) (.bool y)).run P w=.ok (x == y) w:=run_equalIn_bool hd 9999 x y w
theorem ahJ {q:Nat->Live} {x y:SV} {u v:Value} {p:Unit->Prop} (hp:QU x y=some p) (hx:rel η q H x u) (hy:rel η q H y v) :
  ∃a n c b m d,u=.slice a n c/\v=.slice b m d/\(a=none\/b=none)/\((a.isNone&&b.isNone)=true->p ()):=by
 have own:∀{l:Nat} {u:Value},rel η q H (.own l) u->∃a n c,u=.slice a n c:=by
  intro l u h
  simp only [rel] at h
  split at h
  ·exact h.elim
  ·exact h
  ·exact h.2
 unfold QU at hp
 split at hp<;>simp at hp
 ·subst hp
  simp only [rel] at hx hy
  obtain ⟨⟨ad,cap,h1,h2,h3⟩,_⟩:=hx
  refine ⟨_,_,_,_,_,_,h1,hy,.inr rfl,λh=>?_⟩
  rcases h3 with h3|⟨a,rfl,_⟩
  ·exact h3
  ·simp at h
 ·subst hp
  simp only [rel] at hx hy
  obtain ⟨⟨ad,cap,h1,h2,h3⟩,_⟩:=hy
  refine ⟨_,_,_,_,_,_,hx,h1,.inl rfl,λh=>?_⟩
  rcases h3 with h3|⟨a,rfl,_⟩
  ·exact h3
  ·simp at h
 ·subst hp
  obtain ⟨a,n,c,h⟩:=own hx
  simp only [rel] at hy
  exact ⟨_,_,_,_,_,_,h,hy,.inr rfl,λ_=>trivial⟩
 ·subst hp
  obtain ⟨a,n,c,h⟩:=own hy
  simp only [rel] at hx
  exact ⟨_,_,_,_,_,_,hx,h,.inl rfl,λ_=>trivial⟩
theorem agk {t e:TypeId} (hd:P.underlying t=some (.slice e)) (k:Nat) (a b:Option Addr) (n c m d:Nat) (gI:a=none\/b=none) (w:World) :
  (Op.equalIn (k+1) t (.slice a n c) (.slice b m d)).run P w=.ok (a.isNone&&b.isNone) w:=by
 rcases gI with rfl|rfl
 ·simp [Op.equalIn,run_underlying hd]
 ·cases a<;>simp [Op.equalIn,run_underlying hd]
theorem OJ {t e:TypeId} (hd:P.underlying t=some (.slice e)) (a b:Option Addr) (n c m d:Nat) (gI:a=none\/b=none) (w:World) :
 (Op.equal t (.slice a n c) (.slice b m d)).run P w=.ok (a.isNone&&b.isNone) w:=agk hd 9999 a b n c m d gI w
theorem agn {t k e:TypeId} (hd:P.underlying t=some (.map k e)) (d:Nat) (a b:Option Nat) (gI:a=none\/b=none) (w:World) :
  (Op.equalIn (d+1) t (.map a) (.map b)).run P w=.ok (a.isNone&&b.isNone) w:=by
 unfold Op.equalIn
 simp only [Sem.run_bind,run_underlying hd,Result.andThen_ok]
 rcases gI with rfl|rfl
 ·simp
 ·cases a<;>simp
theorem VC {t k e:TypeId} (hd:P.underlying t=some (.map k e)) (a b:Option Nat) (gI:a=none\/b=none) (w:World) :
 (Op.equal t (.map a) (.map b)).run P w=.ok (a.isNone&&b.isNone) w:=agn hd 9999 a b gI w
theorem WY {q:Nat->Live} {x y:SV} {v u:Value} {d:Bool} {p:Unit->Prop} (h:QV x y=some (d,p)) (hx:rel η q H x v) (hy:rel η q H y u) (hp:p ()) :
  ∃a b:Option Nat,v=.map a/\u=.map b/\(a=none\/b=none)/\d=(a.isNone&&b.isNone):=by
 unfold QV at h
 split at h<;>simp at h
 ·obtain ⟨rfl,rfl⟩:=h
  simp only [rel] at hx hy
  exact ⟨none,none,hx.trans hp.1,hy.trans hp.2,.inl rfl,rfl⟩
 ·obtain ⟨rfl,rfl⟩:=h
  simp only [rel] at hx hy
  obtain ⟨uL,n,hn⟩:=hp
  rcases hx.1 with ⟨_,h2⟩|⟨r,_,_,h1,_⟩
  ·exact absurd (h2 n) hn
  ·exact ⟨some r,none,h1,hy.trans uL,.inr rfl,rfl⟩
 ·obtain ⟨rfl,rfl⟩:=h
  simp only [rel] at hx hy
  obtain ⟨uL,n,hn⟩:=hp
  rcases hy.1 with ⟨_,h2⟩|⟨r,_,_,h1,_⟩
  ·exact absurd (h2 n) hn
  ·exact ⟨none,some r,hx.trans uL,h1,.inl rfl,rfl⟩
theorem amW (C:X.Ok P) (D:Den f s η H a w) (op:BinOp) (t t':TypeId) (x y:Operand) (ho:o.op=.binOp op t x y t')
  (h:(MG X op t (Vc.ev s x) (Vc.ev s y)).K R):fm P f s o a w R:=by
 have hx:=D.ev x
 have hy:=D.ev y
 unfold MG at h
 split at h
 ·rename_i hs
  split at h
  ·rename_i k m k' n h1 h2
   obtain ⟨⟨h0⟩,h⟩:=h
   have e1:=mU h1 hx
   have e2:=mU h2 hy
   have hn:¬n () < 0:=by omega
   cases op<;>simp only [BZ] at hs<;>first|cases hs|skip
   ·refine eh D (v:=.int k (k.wrap (m ()*2^min (n ()).toNat k.bits))) (λw=>?_) (by simp only [rel]) h
    simp [execOp,ho,e1,e2,eqGuard,binOp,Op.shift,hn]
   ·refine eh D (v:=.int k ((m ()).fdiv (2^min (n ()).toNat k.bits))) (λw=>?_) (by simp only [rel]) h
    simp [execOp,ho,e1,e2,eqGuard,binOp,Op.shift,hn]
  ·exact h.elim
 ·rename_i hs
  split at h
  ·rename_i k m k' n hl ex ey
   split at h
   ·rename_i hk
    subst hk
    obtain ⟨Y,hR,_,hY⟩:=aiI h
    have hp:∃Z,Ab op k (λ_=>m) (λ_=>n)=.pure Z []:=by
     cases op<;>simp only [EI,eC.K] at h<;>first|exact h.elim|exact ⟨_,rfl⟩
    obtain ⟨Z,hZ⟩:=hp
    have e1:a.eval x=.int k m:=by rw [ex] at hx;simpa only [rel] using hx
    have e2:a.eval y=.int k n:=by rw [ey] at hy;simpa only [rel] using hy
    have main:∀v,(∀w,(match op with
      | .add|.sub|.mul=>Op.intArith op k m n
      | .quo|.rem=>Op.intDiv op k m n
      | .and|.or|.xor|.andNot=>Op.intBits op k m n
      | _=>Op.intCmp op m n:Sem Value).run P w=.ok v w)->rel η (aS s.b) H Z v->fm P f s o a w R:=by
     intro v hv hr
     refine eh D (v:=v) (λw=>?_) (hY v η _ H Z hZ hr) hR
     have:=Wl hv hs t x y w
     simp only [execOp,ho,e1,e2,Sem.run_bind,this,Result.andThen_ok,Sem.run_pure]
    cases op<;>simp only [EI,eC.K] at h<;>first|exact h.elim|skip
    all_goals
     simp only [Ab,eC.pure.injEq,and_true] at hZ
     subst hZ
    ·exact main (.int k _) (λw=>rfl) (by simp only [rel])
    ·exact main (.int k _) (λw=>rfl) (by simp only [rel])
    ·exact main (.int k _) (λw=>rfl) (by simp only [rel])
    ·exact main (.bool _) (λw=>rfl) (by simp only [rel,fk])
    ·exact main (.bool _) (λw=>rfl) (by simp only [rel,fk,bne])
    ·exact main (.bool _) (λw=>rfl) (by simp only [rel,dv])
    ·exact main (.bool _) (λw=>rfl) (by simp only [rel,fU])
    ·exact main (.bool _) (λw=>rfl) (by simp only [rel,dv])
    ·exact main (.bool _) (λw=>rfl) (by simp only [rel,fU])
   ·exact h.elim
  ·split at h
   ·rename_i k m k' n h1 h2
    split at h
    ·rename_i hk
     subst hk
     exact aiH D op t t' x y ho hs h1 h2 h
    ·exact h.elim
   ·split at h
    ·rename_i m n e1 e2
     rw [e1] at hx;rw [e2] at hy
     simp only [rel] at hx hy
     split at h
     ·obtain ⟨⟨h0⟩,h⟩:=h
      have h3:¬(9223372036854775807 < ((m ()).size:Int)+((n ()).size:Int)):=by omega
      refine eh D (v:=.string (m ()++n ())) (λw=>?_) (by simp only [rel]) h
      simp [execOp,ho,hx,hy,eqGuard,binOp,Op.stringOp,IntKind.max,IntKind.signed,IntKind.bits,h3]
     all_goals first|exact h.elim|skip
     ·refine eh D (v:=.bool _) (λw=>?_) (by simp only [rel];rfl) h
      simp [execOp,ho,hx,hy,eqGuard,binOp,Op.stringOp,wX,wP]
     ·refine eh D (v:=.bool _) (λw=>?_) (by simp only [rel];rfl) h
      simp [execOp,ho,hx,hy,eqGuard,binOp,Op.stringOp,wX,wP]
     ·refine eh D (v:=.bool _) (λw=>?_) (by simp only [rel];rfl) h
      simp [execOp,ho,hx,hy,eqGuard,binOp,Op.stringOp,wX,wP]
     ·refine eh D (v:=.bool _) (λw=>?_) (by simp only [rel];rfl) h
      simp [execOp,ho,hx,hy,eqGuard,binOp,Op.stringOp,wX,wP]
     ·refine eh D (v:=.bool _) (λw=>?_) (by simp only [rel];rfl) h
      simp [execOp,ho,hx,hy,eqGuard,binOp,Op.stringOp,wX,wP]
     ·refine eh D (v:=.bool _) (λw=>?_) (by simp only [rel];rfl) h
      simp [execOp,ho,hx,hy,eqGuard,binOp,Op.stringOp,wX,wP]
    ·rename_i cs ds e1 e2
     split at h
     ·rename_i i hi
      split at h
      ·rename_i hc
       simp only [cG,beq_iff_eq] at hc
       split at h
       ·rename_i g g' hg j2
        have I:=C.tt _ _ hi
        rw [e1] at hx;rw [e2] at hy
        simp only [rel] at hx hy
        obtain ⟨vs,yR,jB⟩:=hx
        obtain ⟨us,kD,nq⟩:=hy
        have a1:=P6 hg jB nq
        have a2:=P6 j2 jB (zD η _ H _)
        have run:=λw IX=>(I.flat hc.1.1).2 vs us w (by rw [jj jB];exact hc.1.2) (by rw [jj nq];exact hc.2) a1.2 a2.2 IX x y
        split at h
        ·refine eh D (v:=.bool _) (λw=>?_) (by simp only [rel];rw [<-a1.1]) h
         have:=run w .eql (.inl rfl)
         simp only [execOp,ho,yR,kD]
         rw [Sem.run_bind,this]
         simp
        ·refine eh D (v:=.bool _) (λw=>?_) (by simp only [rel];rw [<-a1.1]) h
         have:=run w .neq (.inr rfl)
         simp only [execOp,ho,yR,kD]
         rw [Sem.run_bind,this]
         simp
        ·exact h.elim
       ·exact h.elim
      ·exact h.elim
     ·exact h.elim
    ·split at h
     ·rename_i i hi
      have I:=C.tt _ _ hi
      have hd:=I.desc
      split at h
      ·rename_i ed
       rw [ed] at hd
       split at h
       ·rename_i g m n hg hm hn
        have e1:=Ly hm hx
        have e2:=Ly hn hy
        have a1:=YU hg hx hy
        rw [e1,e2] at a1
        have a3:(m () == n ())=g ():=a1.1
        split at h
        ·refine eh D (v:=.bool (g ())) (λw=>?_) (by simp only [rel]) h
         simp [execOp,ho,e1,e2,eqGuard,binOp,run_equal_bool hd,a3]
        ·refine eh D (v:=.bool (!g ())) (λw=>?_) (by simp only [rel]) h
         simp [execOp,ho,e1,e2,eqGuard,binOp,run_equal_bool hd,a3]
        ·exact h.elim
       ·exact h.elim
      ·rename_i ek e ed
       rw [ed] at hd
       split at h
       ·rename_i d p hp
        split at h
        ·obtain ⟨⟨IY⟩,h⟩:=h
         obtain ⟨a1,b1,e1,e2,gI,rfl⟩:=WY hp hx hy IY
         refine eh D (v:=.bool _) (λw=>?_) (by simp only [rel];rfl) h
         simp [execOp,ho,e1,e2,eqGuard,binOp,VC hd a1 b1 gI]
        ·obtain ⟨⟨IY⟩,h⟩:=h
         obtain ⟨a1,b1,e1,e2,gI,rfl⟩:=WY hp hx hy IY
         refine eh D (v:=.bool _) (λw=>?_) (by simp only [rel];rfl) h
         simp [execOp,ho,e1,e2,eqGuard,binOp,VC hd a1 b1 gI]
        ·exact h.elim
       ·exact h.elim
      ·rename_i e ed
       rw [ed] at hd
       have fin:∀(u b:Option Addr) (n c m d:Nat),a.eval x=.slice u n c->a.eval y=.slice b m d->(u=none\/b=none)->∀(Y:SV) (r:Bool),(op=.eql/\r=(u.isNone&&b.isNone)\/op=.neq/\r=!(u.isNone&&b.isNone)) ->
         rel η (aS s.b) H Y (.bool r)->R Y []->fm P f s o a w R:=by
        intro u b n c m d e1 e2 xk Y r hr hY hR
        refine eh D (v:=.bool r) (λw=>?_) hY hR
        rcases hr with ⟨rfl,rfl⟩|⟨rfl,rfl⟩<;>simp [execOp,ho,e1,e2,eqGuard,binOp,OJ hd u b n c m d xk]
       split at h
       ·rename_i p hp
        obtain ⟨u,n,c,b,m,d,e1,e2,xk,hq⟩:=ahJ hp hx hy
        split at h
        ·exact fin u b n c m d e1 e2 xk _ _ (.inl ⟨rfl,rfl⟩) (by simp only [rel];exact ⟨_,rfl,hq⟩) h
        ·exact fin u b n c m d e1 e2 xk _ _ (.inr ⟨rfl,rfl⟩) (by simp only [rel];exact ⟨_,rfl,λe=>hq (by simpa using e)⟩) h
        ·exact h.elim
       ·split at h
        ·rename_i e1 e2 _
         rw [e1] at hx;rw [e2] at hy
         simp only [rel] at hx hy
         exact fin _ _ _ _ _ _ hx hy (.inl rfl) _ _ (.inl ⟨rfl,rfl⟩) (by simp only [rel];rfl) h
        ·rename_i e1 e2 _
         rw [e1] at hx;rw [e2] at hy
         simp only [rel] at hx hy
         exact fin _ _ _ _ _ _ hx hy (.inl rfl) _ _ (.inr ⟨rfl,rfl⟩) (by simp only [rel];rfl) h
        ·exact h.elim
      ·exact h.elim
     ·exact h.elim
end
theorem PJ {H:bu} {w:World} (h:H.iZ w) {b o:Nat} {u:Value} (hc:pO H b o=some u):w.cell? ⟨b,o,none⟩=some u:=by
 unfold pO at hc
 split at hc
 ·rename_i c e fz he
  simp [World.cell?,h b _ he,hc]
 ·cases hc
theorem qW (b o j:Nat):(⟨b,o,none⟩:Addr).add j=⟨b,o+j,none⟩:=by
 unfold Addr.add
 split
 ·rename_i h;subst h;simp
 ·rfl
theorem pB (a:Addr) (h:a.spot=none) (j:Nat):a.add j=⟨a.block,a.off+j,none⟩:=by
 obtain ⟨b,o,s⟩:=a
 simp at h;subst h
 exact qW b o j
section
variable {P:Program} {X:Ctx} {f:Fr} {s:St} {η:Nat->Value} {H:bu} {a:Act} {w:World} {o:Oper} {R:SV->List (Nat × Slot)->Prop}
theorem my.Tk {t:TypeId} {i:TI} (I:my P t i):∃d,P.underlying t=some d/\((∃x,d=.struct x)\/(∃n e,d=.array n e)↔i.agg=true):=by
 have:=I.desc
 unfold TI.agg
 split at this
 all_goals first
  | exact ⟨_,this,by simp [*]⟩
  | (obtain ⟨fs,h,_⟩:=this;exact ⟨_,h,by simp [*]⟩)
  | (obtain ⟨d,h,h1,h2⟩:=this;exact ⟨d,h,by simp [*]⟩)
theorem KZ {t:TypeId} {i:TI} (I:my P t i) (w:World):(isAgg t).run P w=.ok i.agg w:=by
 obtain ⟨d,hd,h⟩:=I.Tk
 unfold isAgg
 cases hq:i.agg<;>rw [hq] at h<;>simp at h
 ·obtain ⟨h1,h2⟩:=h
  simp only [Sem.run_bind,run_underlying hd,Result.andThen_ok]
  first|rfl|(split<;>first|rfl|(exfalso;simp_all))
 ·simp only [Sem.run_bind,run_underlying hd,Result.andThen_ok]
  rcases h with ⟨x,rfl⟩|⟨n,e,rfl⟩<;>rfl
theorem run_sizeOf {t:TypeId} {i:TI} (I:my P t i) (w:World):(sizeOf t).run P w=.ok i.size w:=by
 obtain ⟨inf,h1,h2,_⟩:=I.info
 simp [sizeOf,typeInfo,h1,h2]
theorem VY {t:TypeId} {i:TI} (I:my P t i) (w:World) (b o:Nat) (vals:List Value) (hl:i.size<=vals.length)
  (hc:∀j u,vals[j]?=some u->w.cell? ⟨b,o+j,none⟩=some u) :
  (loadVar t ⟨b,o,none⟩).run P w=.ok (if i.agg then .agg (vals.take i.size).toArray else vals.getD 0 undef) w:=by
 unfold loadVar
 simp only [Sem.run_bind,KZ I,Result.andThen_ok]
 cases hq:i.agg
 ·simp only [oX,if_false,run_load]
  cases vals with
  | nil=>have:=I.pos;simp at hl;omega
  | cons v r =>
   have:=hc 0 v (by simp)
   simp only [qV] at this
   simp [this]
 ·simp only [if_true,Sem.run_bind,run_sizeOf I,Result.andThen_ok]
  have:=run_loadCells_list (P:=P) (w:=w) ⟨b,o,none⟩ (vals.take i.size) (λj v hv=>by
   rw [qW]
   rw [lO] at hv
   split at hv
   ·exact hc j v hv
   ·cases hv)
  rw [jd,tZ hl] at this
  simp [this]
theorem Hl {q:Nat->Live} {t:TypeId} {i:TI} (I:my P t i) {cs:List SV} {vs:List Value} {off:Nat} {x:SV} (hg:tg i cs off=some x) (h:aP η q H cs vs) :
  i.size<=(vs.drop off).length/\rel η q H x (if i.agg then .agg ((vs.drop off).take i.size).toArray else (vs.drop off).getD 0 undef):=by
 have hl:=jj h
 unfold tg at hg
 split at hg
 ·rename_i hle
  refine ⟨by simp;omega,?_⟩
  split at hg
  ·rename_i hq
   simp at hg;subst hg
   simp only [hq,if_true,rel]
   exact ⟨_,rfl,El (Ek h off) i.size⟩
  ·rename_i hq
   simp only [hq,if_false,oX]
   obtain ⟨u,h1,h2⟩:=ud h off x hg
   have:(vs.drop off).getD 0 undef=u:=by simp [List.getD_eq_getElem?_getD,kb,h1]
   rw [this];exact h2
 ·cases hg
theorem alf (C:X.Ok P) (D:Den f s η H a w) (t:TypeId) (x:Operand) (ho:o.op=.load t x) (h:(Cn X s.b t (Vc.ev s x)).K R):fm P f s o a w R:=by
 have hx:=D.ev x
 unfold Cn at h
 split at h
 ·exact h.elim
 rename_i i hi
 have I:=C.tt _ _ hi
 have fin:∀(b off:Nat) (vals:List Value) (cs:List SV) (R0:Nat) (y:SV),a.eval x=.pointer (some ⟨b,off,none⟩)->aP η (aS s.b) H cs vals ->
   (∀j u,(vals.drop R0)[j]?=some u->w.cell? ⟨b,off+j,none⟩=some u)->tg i cs R0=some y->R y []->fm P f s o a w R:=by
  intro b off vals cs R0 y hp hr hc hg hR
  obtain ⟨h1,h2⟩:=Hl I hg hr
  refine x9 D (v:=_) (w':=w) ?_ (qh w none) h2 hR
  simp only [execOp,ho,hp,Sem.run_bind,Instr.loadAt,Instr.sureAddr,Sem.run_pure,Result.andThen_ok,VY I w b off _ h1 hc]
 split at h
 ·rename_i l off ex
  rw [ex] at hx
  split at h
  ·rename_i e cs hs
   split at h
   ·rename_i v hv
    simp only [rel,cx hs,Slot.live] at hx
    obtain ⟨bl,h1,h2⟩:=hx
    obtain ⟨kN,vs,h3,h4,h5⟩:=D.sl l _ hs
    rw [h1] at h3
    simp at h3;subst h3
    refine fin bl off vs.toList cs off v h2 h5 (λj u hu=>?_) hv h
    rw [kb] at hu
    rw [cell_of_row w bl (off+j) vs e (0,0) h4]
    simpa using hu
   ·exact h.elim
  ·exact h.elim
 ·rename_i cs off ex
  rw [ex] at hx
  split at h
  ·rename_i v hv
   simp only [rel] at hx
   obtain ⟨ad,h1,vals,h2,h3⟩:=hx
   refine fin ad.block (ad.off+off) vals cs off v h1 h2 (λj u hu=>?_) hv h
   rw [kb] at hu
   have:=PJ D.hw (h3 _ u hu)
   rwa [<-Nat.add_assoc] at this
  ·exact h.elim
 ·rename_i l sz j off ex
  rw [ex] at hx
  split at h
  ·rename_i T e jZ c xs hs
   split at h
   ·rename_i fc
    subst fc
    obtain ⟨y,⟨hy,hg⟩,hR⟩:=h
    simp only [rel,cx hs,Slot.live] at hx
    obtain ⟨bl,n,cap,h1,h2⟩:=hx
    obtain ⟨vals,nr,h4,h5,kr⟩:=D.sl l _ hs
    have h3:=nr.pos (show 0 < (xs ()).length by have:=(a7.1 hy).1;omega)
    have h6:=zw h5 h4 (j ()) y hy
    have hc:=h3.cells (g:=bl) (by rw [h1];rfl)
    obtain ⟨z,hz⟩:=sX.1 hg
    simp only [hz,tX] at hR
    refine fin bl (j ()*sz+off) _ (c y) off z h2 (dL.up (bu.le.refl H) h6) (λk u hu=>?_) hz hR
    rw [kb,lO] at hu
    split at hu
    ·rw [kb] at hu
     have:=hc _ u hu
     rw [qW] at this
     simpa [Nat.add_assoc] using this
    ·cases hu
   ·exact h.elim
  ·rename_i T e c xs p ys hs
   split at h
   case h_2=>exact h.elim
   rename_i y
   split at h
   ·rename_i hc
    obtain ⟨tq,Tl,fc,Nr⟩:=hc
    subst tq;subst Tl
    obtain ⟨⟨hjp⟩,hR⟩:=h
    simp only [rel,cx hs,Slot.live] at hx
    obtain ⟨bl,n,cap,h1,h2⟩:=hx
    obtain ⟨vals,nr,h4,⟨u,hu,hru⟩,h5⟩:=D.sl l _ hs
    rcases nr with ⟨h3,_⟩|⟨_,_,hv⟩
    rotate_left
    ·rw [hv] at hu;simp at hu
    have hc:=h3.cells (g:=bl) (by rw [h1];rfl)
    refine fin bl (j ()*1+0) [u] [y] 0 y h2 hru (λk z hz=>?_) ?_ hR
    ·cases k with
     | zero =>
      simp at hz;subst hz
      have:=hc _ u hu
      rw [qW,<-hjp] at this
      simpa using this
     | succ k=>simp at hz
    ·unfold tg
     rw [if_pos (by simp [fc]),if_neg (by simp [Nr])];rfl
   ·exact h.elim
  ·exact h.elim
 ·exact h.elim
theorem Vv:∀(ys cs:List SV) (off:Nat),(putCells cs off ys).length=cs.length
 | [],cs,off=>rfl
 | y :: ys,cs,off=>by simp [putCells,Vv ys]
theorem Kl {q:Nat->Live}:∀{ys:List SV} {us:List Value} {cs:List SV} {vs:List Value} {off:Nat},aP η q H ys us->aP η q H cs vs->off+ys.length<=cs.length ->
  aP η q H (putCells cs off ys) (vs.take off++us++vs.drop (off+us.length))
 | [],us,cs,vs,off,hy,hc,hl=>by
  simp only [aP] at hy;subst hy;simpa [putCells] using hc
 | y :: ys,us,cs,vs,off,hy,hc,hl=>by
  simp only [aP] at hy
  obtain ⟨u,us,rfl,h1,h2⟩:=hy
  have hlen:=jj hc
  simp at hl
  have:=Kl (cs:=cs.set off y) (vs:=vs.set off u) (off:=off+1) h2 (x7 hc off h1) (by simp;omega)
  have Tm:=jj h2
  rw [list_seg_step vs off u us (by omega)] at this
  simpa [putCells] using this
theorem OL {t:TypeId} {i:TI} (I:my P t i) {v:Value} (hv:v.cells.size=i.size) (h1:∀u∈v.cells.toList,u.oneCell'=true) (w:World) (b off:Nat) (cur:Array Value) (e:TypeId)
  (hg:w.heap[b]?=some (.cells cur e (0,0))) (r8:off+i.size<=cur.size) :
  (storeVar t ⟨b,off,none⟩ v).run P w=.ok () (w.setRow b (cur.toList.take off++v.cells.toList++cur.toList.drop (off+v.cells.toList.length)).toArray):=by
 have:=run_storeCells_at P b off e v.cells.toList 0 cur w hg (by simpa [hv] using r8) h1
 simp only [qV] at this
 simp [storeVar,run_sizeOf I,hv,this]
theorem GJ (w:World) (b:Nat) (cs:Array Value):w.grownBy (w.setRow b cs) (some b) :=
 ⟨rfl,rfl,rfl,by simp,λk _ hk=>setRow_other w b k _ (λe=>hk (by rw [e]))⟩
theorem XO (l us:List Value) (k m:Nat) (h1:k+us.length<=m) (h2:m<=l.length) :
  (l.take k++us++l.drop (k+us.length)).take m=(l.take m).take k++us++(l.take m).drop (k+us.length):=by
 rw [PE,tZ (by omega),Eh,Pw,iL (by simp;omega)]
 simp only [List.length_append,jd,tZ (show k<=l.length by omega)]
theorem Vw:∀(ys cs ds:List SV) (off:Nat),off+ys.length<=cs.length->putCells (cs++ds) off ys=putCells cs off ys++ds
 | [],cs,ds,off,_=>rfl
 | y :: ys,cs,ds,off,h=>by
  simp at h
  simp only [putCells]
  rw [List.set_append_left _ _ (by omega),Vw ys _ ds _ (by simp;omega)]
theorem YV {T:Type} {q:Nat->Live} {c:T->List SV} {sz:Nat} (kr:∀x,cN (c x)/\(c x).all SV.one=true) {us:List Value} {ys:List SV} {off:Nat} {y1 y2:T}
  (mD:(c y2).length=sz) (hle:dA (putCells (c y1) off ys) (c y2)) (hy:aP η q H ys us) (ab2:off+us.length<=sz) :
  ∀{xs:List T} {vals:List Value} {j:Nat},(∀x∈xs,(c x).length=sz)->dL H (xs.flatMap c) vals->xs[j]?=some y1 ->
  (vals.take (j*sz+off)++us++vals.drop (j*sz+off+us.length)).length=vals.length /\
  dL H ((xs.set j y2).flatMap c) (vals.take (j*sz+off)++us++vals.drop (j*sz+off+us.length))
 | [],vals,j,_,_,hj=>by simp at hj
 | x :: r,vals,0,h5,h4,hj=>by
  simp at hj;subst hj
  have hx:(c x).length=sz:=h5 x (by simp)
  have Tm:=jj hy
  simp only [Nat.zero_mul,oZ,List.set_cons_zero]
  rw [qR] at h4 ⊢
  have gP:=jj h4
  simp only [List.length_append,hx] at gP
  refine ⟨by simp;omega,?_⟩
  have h1:aP η q H (c x++r.flatMap c) vals:=dL.up (bu.le.refl H) h4
  have h2:=Kl (off:=off) hy h1 (by simp;omega)
  rw [Vw _ _ _ _ (by omega)] at h2
  obtain ⟨h3,_⟩:=DZ h2
  rw [Vv,hx] at h3
  have h6:=kB _ _ (kr y2).1 (jH hle h3) (η':=λ_=>.nilIface) (q':=λ_=>.un)
  obtain ⟨_,h7⟩:=DZ h4
  have h8:=iS h6 h7
  rw [hx] at h8
  have e:(vals.take off++us++vals.drop (off+us.length))=(vals.take off++us++vals.drop (off+us.length)).take sz++vals.drop sz:=by
   conv=>lhs;rw [<-List.take_append_drop sz (vals.take off++us++vals.drop (off+us.length))]
   congr 1
   rw [List.drop_append,Eu (by simp;omega),qU,List.drop_drop]
   congr 1
   simp
   omega
  rw [e]
  exact h8
 | x :: r,vals,j+1,h5,h4,hj=>by
  have hx:(c x).length=sz:=h5 x (by simp)
  rw [qR] at h4
  obtain ⟨h6,h7⟩:=DZ h4
  rw [hx] at h6 h7
  have gP:=jj h4
  simp only [List.length_append,hx] at gP
  obtain ⟨i1,i2⟩:=YV kr mD hle hy ab2 (xs:=r) (λz hz=>h5 z (by simp [hz])) h7 (by simpa using hj)
  have e:vals.take ((j+1)*sz+off)++us++vals.drop ((j+1)*sz+off+us.length) =
    vals.take sz++((vals.drop sz).take (j*sz+off)++us++(vals.drop sz).drop (j*sz+off+us.length)):=by
   rw [show (j+1)*sz+off=sz+(j*sz+off) by rw [Nat.add_mul];omega,List.take_add,List.drop_drop]
   simp [Nat.add_assoc]
  rw [e]
  refine ⟨by rw [List.length_append,i1];simp;omega,?_⟩
  rw [KP,qR]
  exact iS h6 i2
theorem ajY (C:X.Ok P) (D:Den f s η H a w) (t:TypeId) (x y:Operand) (ho:o.op=.store t x y) (hd:o.dst=none)
  (h:(Ac X s.b t (Vc.ev s x) (Vc.ev s y)).K R):fm P f s o a w R:=by
 have hx:=D.ev x
 have hy:=D.ev y
 unfold Ac at h
 split at h
 case h_2=>exact h.elim
 rename_i i ys hi oF
 have I:=C.tt _ _ hi
 obtain ⟨kD,nq⟩:=P5 oF hy
 split at h
 case isFalse=>exact h.elim
 rename_i hlen
 have rr:(a.eval y).cells.size=i.size:=by have:=jj kD;simp at this;omega
 split at h
 ·rename_i l off ex
  rw [ex] at hx
  split at h
  ·rename_i e cs hs
   split at h
   ·rename_i r8
    simp only [rel,cx hs,Slot.live] at hx
    obtain ⟨bl,h1,h2⟩:=hx
    obtain ⟨kN,vs,h3,h4,h5⟩:=D.sl l _ hs
    rw [h1] at h3
    simp at h3;subst h3
    have gP:=jj h5
    simp at gP
    have cV:aS s.b l=.live:=by rw [cx hs];rfl
    have R4:=Kl (off:=off) kD h5 (by omega)
    have D':=D.change (η':=η) (l:=l) (x:=.fix e (putCells cs off ys)) none (b':=s.b.set l (.fix e (putCells cs off ys))) rfl (λ_ _=>rfl) (.inr ⟨cV,rfl,rfl⟩) rfl
     (λ_ h=>by cases h) (some bl) (GJ w bl _) (λk hk=>.inr ⟨cV,by simp at hk;subst hk;rw [h1];rfl⟩)
     (λb hb=>.inr (.inr ⟨cV,hb⟩)) (λT=>⟨bl,_,h1,setRow_heap w bl vs _ e _ h4,gC T (bu.le.refl H) _ _ R4⟩)
    refine ⟨_,_,h,λK Q hk=>?_⟩
    unfold Oper.wp
    have hr:=OL I rr nq w bl off vs e h4 (by omega)
    simp only [execOp,ho,h2,Sem.run_bind,Instr.storeAt,Instr.sureAddr,Sem.run_pure,Result.andThen_ok,hr]
    refine hk η H _ undef ?_
    rw [hd]
    exact D'
   ·exact h.elim
  ·exact h.elim
 ·rename_i l sz j off ex
  rw [ex] at hx
  split at h
  ·rename_i T e jZ c xs hs
   split at h
   ·rename_i l' fj
    split at h
    ·rename_i hc
     obtain ⟨rfl,rfl,rfl⟩:=hc
     obtain ⟨⟨hj⟩,hR⟩:=h
     have ey:Vc.ev s y=.own l':=by
      revert fj
      cases Vc.ev s y<;>simp [aaV]
     rw [ey] at hy oF
     have ab3:[SV.own l']=ys:=by simp [SV.cells?] at oF;exact oF.2
     subst ab3
     have tq:i.size=1:=hlen.symm
     simp only [aP] at kD
     obtain ⟨v,r0,sr,AP,FK⟩:=kD
     subst FK
     simp only [rel,cx hs,Slot.live] at hx
     obtain ⟨bl,n,cap,h1,h2⟩:=hx
     obtain ⟨vals,nr,h4,h5,kr⟩:=D.sl l _ hs
     have h3:=nr.pos (show 0 < (xs ()).length by omega)
     have cV:aS s.b l=.live:=by rw [cx hs];rfl
     rcases h3.2 with ⟨hn,_⟩|⟨g,qy,cur,hg,_,ib,uu,l5,gk,q9⟩
     ·rw [h1] at hn;cases hn
     have hblk:g=bl:=by rw [h1] at hg;simp at hg;exact hg.1.symm
     subst hblk
     have gP:=h3.1
     have hr:=OL I rr nq w g (j ()*1+0) cur e ib (by rw [gk];omega)
     have AQ:(a.eval y).cells.toList.length=1:=by rw [sr];rfl
     have uA:∀k,k≠j ()->(vals.take (j ()*1+0)++(a.eval y).cells.toList++vals.drop (j ()*1+0+(a.eval y).cells.toList.length))[k]?=vals[k]?:=λk hk=>by
      have hjv:j () < vals.length:=by omega
      rw [AQ,sr,o0,qV,List.append_assoc]
      rcases pG k (j ()) with h|h
      ·rw [ka (by rw [jd];omega),lO,if_pos h]
      ·rw [qi (by rw [jd];omega),jd,tZ (by omega),qi (by simp;omega),kb]
       congr 1
       simp;omega
     have oG:(vals.take (j ()*1+0)++(a.eval y).cells.toList++vals.drop (j ()*1+0+(a.eval y).cells.toList.length))[j ()]?=some v:=by
      have hjv:j () < vals.length:=by omega
      rw [AQ,sr,o0,qV,List.append_assoc,qi (by rw [jd];omega),jd,tZ (by omega),zB]
      rfl
     have hpt:∀(k:Nat) x,(xs ())[k]?=some x->k≠j ()->∃u,(vals.take (j ()*1+0)++(a.eval y).cells.toList++vals.drop (j ()*1+0+(a.eval y).cells.toList.length))[k]?=some u/\dL H (c x) [u]:=λk x hx hk=>by
      have h6:=zw h5 h4 k x hx
      have hkx:=(a7.1 hx).1
      have Tn:k < vals.length:=by omega
      refine ⟨vals[k],by rw [uA k hk];exact ea Tn,?_⟩
      rw [o0,qQ Tn] at h6
      exact h6
     have D':=D.change (w':=w.setRow g (cur.toList.take (j ()*1+0)++(a.eval y).cells.toList++cur.toList.drop (j ()*1+0+(a.eval y).cells.toList.length)).toArray) (η':=η) (l:=l) (x:=.fj e c xs j [.own l']) none (b':=s.b.set l (.fj e c xs j [.own l'])) rfl (λ_ _=>rfl)
      (.inr ⟨cV,rfl,rfl⟩) rfl (λ_ h=>by cases h) (some g) (GJ w g _) (λk hk=>.inr ⟨cV,by simp at hk;subst hk;rw [hg];simp only [cy];rw [if_neg (by omega)]⟩)
      (λb hb=>.inr (.inr ⟨cV,hb⟩)) (λT=>⟨_,.of ⟨?_,.inr ⟨g,qy,_,by simpa using hg,cg _,setRow_heap w g cur _ e _ ib,by simpa using uu,l5,?_,?_⟩⟩,hpt,⟨v,oG,v,[],rfl,uc T (bu.le.refl H) _ _ AP,rfl⟩,h5,kr⟩)
     ·refine ⟨_,_,hR,λK Q hk=>?_⟩
      unfold Oper.wp
      simp only [execOp,ho,h2,Sem.run_bind,Instr.storeAt,Instr.sureAddr,Sem.run_pure,Result.andThen_ok,hr]
      refine hk η H _ undef ?_
      rw [hd]
      exact D'
     ·simp only [List.length_append,jd,tY,AQ]
      omega
     ·simp only [BG,List.length_append,jd,tY,vw,AQ]
      omega
     ·rw [XO _ _ _ _ (by omega) (by simp;omega),q9]
    ·exact h.elim
   split at h
   ·rename_i hc
    obtain ⟨fc,ab2⟩:=hc
    subst fc
    obtain ⟨⟨y1,y2⟩,⟨hj,mD,hle⟩,hR⟩:=h
    simp only at hj mD hle hR
    simp only [rel,cx hs,Slot.live] at hx
    obtain ⟨bl,n,cap,h1,h2⟩:=hx
    obtain ⟨vals,nr,h4,h5,kr⟩:=D.sl l _ hs
    have h3:=nr.pos (show 0 < (xs ()).length by have:=(a7.1 hj).1;omega)
    have cV:aS s.b l=.live:=by rw [cx hs];rfl
    rcases h3.2 with ⟨hn,_⟩|⟨g,qy,cur,hg,_,ib,uu,l5,gk,q9⟩
    ·rw [h1] at hn;cases hn
    have hblk:g=bl:=by rw [h1] at hg;simp at hg;exact hg.1.symm
    subst hblk
    have dG:j () < (xs ()).length:=(a7.1 hj).1
    have hmul:(j ()+1)*sz<=(xs ()).length*sz:=wM _ dG
    rw [Nat.add_mul,Nat.one_mul] at hmul
    have gP:=h3.1
    have vL:(xs ()).length*sz<=qy*sz:=wM _ uu
    have hr:=OL I rr nq w g (j ()*sz+off) cur e ib (by rw [gk];omega)
    have AQ:(a.eval y).cells.toList.length=i.size:=by simpa using rr
    obtain ⟨Rt,amX⟩:=YV (us:=(a.eval y).cells.toList) kr mD hle kD (by omega) h5 h4 hj
    have ab4:w.ownsRow 0 e sz (η l) (xs ()).length vals:=h3
    have D':=D.change (w':=w.setRow g (cur.toList.take (j ()*sz+off)++(a.eval y).cells.toList++cur.toList.drop (j ()*sz+off+(a.eval y).cells.toList.length)).toArray) (η':=η) (l:=l) (x:=.dyn e sz c λ_=>(xs ()).set (j ()) y2) none (b':=s.b.set l (.dyn e sz c λ_=>(xs ()).set (j ()) y2)) rfl (λ_ _=>rfl)
     (.inr ⟨cV,rfl,rfl⟩) rfl (λ_ h=>by cases h) (some g) (GJ w g _) (λk hk=>.inr ⟨cV,by simp at hk;subst hk;rw [hg];simp only [cy];rw [if_neg (by omega)]⟩)
     (λb hb=>.inr (.inr ⟨cV,hb⟩)) (λT=>⟨_,.of ⟨by simpa [gP] using Rt,.inr ⟨g,qy,_,by simpa using hg,cg _,setRow_heap w g cur _ e _ ib,by simpa using uu,l5,?_,?_⟩⟩,amX,?_,kr⟩)
    ·refine ⟨_,_,hR,λK Q hk=>?_⟩
     unfold Oper.wp
     simp only [execOp,ho,h2,Sem.run_bind,Instr.storeAt,Instr.sureAddr,Sem.run_pure,Result.andThen_ok,hr]
     refine hk η H _ undef ?_
     rw [hd]
     exact D'
    ·simp only [BG,List.length_append,jd,tY,vw,AQ]
     omega
    ·simp only [x4]
     rw [XO _ _ _ _ (by omega) (by simp;omega),q9]
    ·intro z hz
     rcases WQ hz with hz|rfl
     ·exact h5 z hz
     ·exact mD
   ·exact h.elim
  ·exact h.elim
 ·exact h.elim
end
section
variable {P:Program} {X:Ctx} {f:Fr} {s:St} {η:Nat->Value} {H:bu} {a:Act} {w:World} {o:Oper} {R:SV->List (Nat × Slot)->Prop}
theorem He {q:Nat->Live} {x:SV} {v:Value} (hx:rel η q H x v) (k:Nat) :
  (∀l off,x=.ptr l off->∃ad,v=.pointer (some ad)/\rel η q H (.ptr l (off+k)) (.pointer (some (ad.add k)))) /\
  (∀cs off,x=.dV cs off->∃ad,v=.pointer (some ad)/\rel η q H (.dV cs (off+k)) (.pointer (some (ad.add k)))) /\
  (∀l sz i off,x=.gh l sz i off->∃ad,v=.pointer (some ad)/\rel η q H (.gh l sz i (off+k)) (.pointer (some (ad.add k)))):=by
 refine ⟨?_,?_,?_⟩
 ·rintro l off rfl
  simp only [rel] at hx ⊢
  cases hq:q l<;>simp only [hq] at hx ⊢
  ·obtain ⟨ad,rfl⟩:=hx;exact ⟨ad,rfl,_,rfl⟩
  ·obtain ⟨bl,h1,rfl⟩:=hx;exact ⟨_,rfl,bl,h1,by rw [qW]⟩
 ·rintro cs off rfl
  simp only [rel] at hx ⊢
  obtain ⟨ad,rfl,h2⟩:=hx
  exact ⟨_,rfl,ad,by rw [qW,Nat.add_assoc],h2⟩
 ·rintro l sz i off rfl
  simp only [rel] at hx ⊢
  cases hq:q l<;>simp only [hq] at hx ⊢
  ·obtain ⟨ad,rfl⟩:=hx;exact ⟨ad,rfl,_,rfl⟩
  ·obtain ⟨bl,n,c,h1,rfl⟩:=hx;exact ⟨_,rfl,bl,n,c,h1,by rw [qW,Nat.add_assoc]⟩
theorem agM {t:TypeId} {i:TI} (I:my P t i) {fs:List (TypeId × Nat × Nat)} (hd:i.d=.st fs) {j:Nat} {ft off sz:Nat} (hj:fs[j]?=some (ft,off,sz)) (ad:Addr) (w:World) :
  (Instr.fieldAt t (.pointer (some ad)) j).run P w=.ok (.pointer (some (ad.add off))) w:=by
 have:=I.desc
 rw [hd] at this
 obtain ⟨gs,h1,h2,h3⟩:=this
 have aO:j < gs.size:=by rw [h2];exact (a7.1 hj).1
 obtain ⟨inf,h4,h5,h6⟩:=h3 j gs[j] (by simp [aO])
 rw [hj] at h6
 simp at h6
 simp [Instr.fieldAt,run_underlying h1,aO,Instr.sureAddr,fieldPlace,sizeOf,typeInfo,h4,h5,<-h6.2.1]
theorem agN (C:X.Ok P) (D:Den f s η H a w) (t:TypeId) (x:Operand) (j:Nat) (ho:o.op=.fieldAddr t x j) (h:(GM X t (Vc.ev s x) j).K R):fm P f s o a w R:=by
 have hx:=D.ev x
 unfold GM at h
 split at h<;>first|exact h.elim|skip
 rename_i i hi
 have I:=C.tt _ _ hi
 split at h<;>first|exact h.elim|skip
 rename_i fs hd
 split at h<;>first|exact h.elim|skip
 rename_i ft off sz hj
 have fin:∀(y:SV),(∃ad,a.eval x=.pointer (some ad)/\rel η (aS s.b) H y (.pointer (some (ad.add off))))->R y []->fm P f s o a w R:=by
  rintro y ⟨ad,hp,hr⟩ hR
  refine eh D (λw=>?_) hr hR
  simp only [execOp,ho,hp,Sem.run_bind,agM I hd hj,Result.andThen_ok,Sem.run_pure]
 obtain ⟨h1,h2,h3⟩:=He hx off
 split at h<;>first|exact h.elim|skip
 ·rename_i l k ex;exact fin _ (h1 l k ex) h
 ·rename_i cs k ex;exact fin _ (h2 cs k ex) h
 ·rename_i l sz j k ex;exact fin _ (h3 l sz j k ex) h
theorem agO (C:X.Ok P) (D:Den f s η H a w) (t:TypeId) (x ix:Operand) (ho:o.op=.indexAddr t x ix) (h:(zz X s.b t (Vc.ev s x) (Vc.ev s ix)).K R):fm P f s o a w R:=by
 have hx:=D.ev x
 have cZ:=D.ev ix
 unfold zz at h
 split at h<;>first|exact h.elim|skip
 rename_i i hi
 have I:=C.tt _ _ hi
 have cu:=I.desc
 split at h<;>first|exact h.elim|skip
 ·rename_i n e hd
  rw [hd] at cu
  split at h<;>first|exact h.elim|skip
  rename_i j k m hj em
  have J:=C.tt _ _ hj
  split at h<;>first|exact h.elim|skip
  rename_i hm
  rw [em] at cZ
  simp only [rel] at cZ
  have fin:∀(y:SV),(∃ad,a.eval x=.pointer (some ad)/\rel η (aS s.b) H y (.pointer (some (ad.add (m.toNat*j.size)))))->R y []->fm P f s o a w R:=by
   rintro y ⟨ad,hp,hr⟩ hR
   refine eh D (λw=>?_) hr hR
   have xl:0<=m/\m < (n:Int):=by omega
   simp [execOp,ho,hp,cZ,Instr.indexAt,asIntOf,run_underlying cu,Instr.sureAddr,xl,run_sizeOf J]
  obtain ⟨h1,h2,h3⟩:=He hx (m.toNat*j.size)
  split at h<;>first|exact h.elim|skip
  ·rename_i l k ex;exact fin _ (h1 l k ex) h
  ·rename_i cs k ex;exact fin _ (h2 cs k ex) h
  ·rename_i l sz j k ex;exact fin _ (h3 l sz j k ex) h
  ·rename_i j k m hj em
   have J:=C.tt _ _ hj
   rw [em] at cZ
   simp only [rel] at cZ
   have fin:∀(g:Nat) (y:SV),(m ()=(g:Int)/\g < n)->(∃ad,a.eval x=.pointer (some ad)/\rel η (aS s.b) H y (.pointer (some (ad.add (g*j.size)))))->R y []->fm P f s o a w R:=by
    rintro g y ⟨hg,aO⟩ ⟨ad,hp,hr⟩ hR
    refine eh D (λw=>?_) hr hR
    rw [hg] at cZ
    simp [execOp,ho,hp,cZ,Instr.indexAt,asIntOf,run_underlying cu,Instr.sureAddr,aO,run_sizeOf J]
   split at h<;>first|exact h.elim|skip
   ·rename_i l k ex;obtain ⟨g,hg,h⟩:=h;exact fin g _ hg.out ((He hx _).1 l k ex) h
   ·rename_i cs k ex;obtain ⟨g,hg,h⟩:=h;exact fin g _ hg.out ((He hx _).2.1 cs k ex) h
   ·rename_i l sz p k ex;obtain ⟨g,hg,h⟩:=h;exact fin g _ hg.out ((He hx _).2.2 l sz p k ex) h
 ·rename_i e hd
  rw [hd] at cu
  split at h<;>first|exact h.elim|skip
  rename_i j k m hj hm
  have J:=C.tt _ _ hj
  have To:=mU hm cZ
  have run:∀(ad:Addr) (n c:Nat),a.eval x=.slice (some ad) n c->0<=m ()->(m ()).toNat < n->∀w,
    (execOp a.eval o).run P w=.ok (.value (.pointer (some (ad.add ((m ()).toNat*j.size))))) w:=by
   intro ad n c hp h0 h1 w
   have xl:0<=m ()/\m () < (n:Int):=by omega
   simp [execOp,ho,hp,To,Instr.indexAt,asIntOf,run_underlying cu,xl,run_sizeOf J]
  split at h<;>first|exact h.elim|skip
  ·rename_i T sz c xs ex
   split at h<;>first|exact h.elim|skip
   rename_i fc
   subst fc
   obtain ⟨y,⟨h0,hy⟩,hR⟩:=h
   rw [ex] at hx
   simp only [rel] at hx
   obtain ⟨⟨ad,cap,h1,h2,h3⟩,_⟩:=hx
   have aO:=(a7.1 hy).1
   rcases h3 with h3|⟨ad,rfl,fV,h4⟩
   ·rw [h3] at aO;simp at aO
   obtain ⟨vals,h5,h6,h7⟩:=h4 _ y hy
   refine eh D (run ad _ _ h1 h0 aO) ?_ hR
   simp only [rel]
   exact ⟨ad.add ((m ()).toNat*j.size),by rw [pB _ fV];simp,vals,h6,by rw [pB _ fV];exact h7⟩
  ·rename_i l ex
   split at h<;>first|exact h.elim|skip
   ·rename_i T e' sz c xs hs
    split at h<;>first|exact h.elim|skip
    rename_i fc
    subst fc
    obtain ⟨⟨h0,h1⟩,hR⟩:=h
    rw [ex] at hx
    simp only [rel,cx hs,Slot.live] at hx
    obtain ⟨vals,nr,h4,h5,kr⟩:=D.sl l _ hs
    have h3:=nr.pos (show 0 < (xs ()).length by omega)
    rcases h3.2 with ⟨hn,hz⟩|⟨g,qy,cur,hg,_,ib,uu,l5,gk,q9⟩
    ·omega
    refine eh D (run ⟨g,0,none⟩ _ _ (hx.1.trans hg) h0 h1) ?_ hR
    simp only [rel,cx hs,Slot.live]
    exact ⟨g,_,_,hg,by rw [qW];simp⟩
   ·rename_i T e' c xs p ys hs
    split at h<;>first|exact h.elim|skip
    rename_i fc
    obtain ⟨⟨h0,h1⟩,hR⟩:=h
    rw [ex] at hx
    simp only [rel,cx hs,Slot.live] at hx
    obtain ⟨vals,nr,h4⟩:=D.sl l _ hs
    have h3:=nr.pos (show 0 < (xs ()).length by omega)
    rcases h3.2 with ⟨hn,hz⟩|⟨g,qy,cur,hg,_,ib,uu,l5,gk,q9⟩
    ·omega
    refine eh D (run ⟨g,0,none⟩ _ _ (hx.1.trans hg) h0 h1) ?_ hR
    simp only [rel,cx hs,Slot.live]
    exact ⟨g,_,_,hg,by rw [qW,fc];simp⟩
  ·rename_i l sz g h' ex
   split at h<;>first|exact h.elim|skip
   rename_i T e' jZ c xs hs
   split at h<;>first|exact h.elim|skip
   rename_i fc
   subst fc
   obtain ⟨⟨h0,h1⟩,hR⟩:=h
   rw [ex] at hx
   simp only [rel,cx hs,Slot.live] at hx
   obtain ⟨ad,nn,cc,p1,p2,p3,lG,c',p4,p5,p6⟩:=hx
   obtain ⟨bl,rfl,rfl⟩:=p6.1 (by omega)
   refine eh D (run ⟨bl,g ()*j.size,none⟩ _ _ p4 h0 h1) ?_ hR
   simp only [rel,cx hs,Slot.live]
   exact ⟨bl,_,_,p1,by rw [qW,Nat.add_mul];simp⟩
  ·rename_i cs n ex
   rw [ex] at hx
   simp only [rel] at hx
   obtain ⟨ad,h3,h4⟩:=hx
   have fin:∀g:Nat,m ()=(g:Int)->g < n->R (.dV ((cs.drop (g*j.size)).take j.size) 0) []->fm P f s o a w R:=by
    intro g yS h1 hR
    rcases h4 with h4|⟨ad,rfl,fV,vals,h5,h6⟩
    ·omega
    have gP:=jj h5
    refine eh D (run ad n n h3 (by omega) (by omega)) ?_ hR
    simp only [rel,yS,ke]
    refine ⟨ad.add (g*j.size),by rw [pB _ fV];simp,_,El (Ek h5 _) _,?_⟩
    rw [pB _ fV]
    intro k u hu
    rw [lO] at hu
    split at hu
    ·rw [kb] at hu
     have:=h6 _ u hu
     rwa [<-Nat.add_assoc] at this
    ·cases hu
   split at h<;>first|exact h.elim|skip
   ·rename_i k' m' em
    split at h<;>first|exact h.elim|skip
    rename_i xl
    obtain ⟨h0,h1,h2⟩:=xl
    have yS:m ()=(m'.toNat:Int):=by
     rw [em] at hm
     simp [SV.kq] at hm
     rw [<-hm.2]
     show m'=_
     omega
    exact fin _ yS h1 h
   ·rename_i k' m' em
    split at h<;>first|exact h.elim|skip
    rename_i E hE
    have EE:=C.el _ _ hE
    obtain ⟨⟨y,zs⟩,⟨g1,g2,g3,g4⟩,hR⟩:=h
    simp only at g1 g2 g3 g4 hR
    have yS:m ()=m' ():=by
     rw [em] at hm
     simp [SV.kq] at hm
     rw [<-hm.2]
    have aO:=(a7.1 g4).1
    rcases h4 with h4|⟨ad,rfl,fV,vals,h5,h6⟩
    ·omega
    have h7:=zw (λx _=>EE.len j hj x) (jH g1 h5) _ y g4
    refine eh D (run ad n n h3 (by omega) (by omega)) ?_ hR
    simp only [rel,yS]
    refine ⟨ad.add ((m' ()).toNat*j.size),by rw [pB _ fV];simp,_,h7,?_⟩
    rw [pB _ fV]
    intro k u hu
    rw [lO] at hu
    split at hu
    ·rw [kb] at hu
     have:=h6 _ u hu
     rwa [<-Nat.add_assoc] at this
    ·cases hu
theorem ajZ (C:X.Ok P) (D:Den f s η H a w) (t:TypeId) (x ix:Operand) (ho:o.op=.index t x ix) (h:(Lv X t (Vc.ev s x) (Vc.ev s ix)).K R):fm P f s o a w R:=by
 have hx:=D.ev x
 have cZ:=D.ev ix
 unfold Lv at h
 split at h<;>first|exact h.elim|skip
 rename_i i hi
 have I:=C.tt _ _ hi
 have cu:=I.desc
 split at h<;>first|exact h.elim|skip
 ·rename_i y hd ex
  rw [hd] at cu
  split at h<;>first|exact h.elim|skip
  rename_i k m hm
  obtain ⟨⟨h0,h1⟩,hR⟩:=h
  have To:=mU hm cZ
  rw [ex] at hx
  simp only [rel] at hx
  refine eh D (v:=.int .u8 (((y ()).data.toList.getD (m ()).toNat 0).toNat)) (λw=>?_) (by simp only [rel]) hR
  have h2:(y ())[(m ()).toNat]?=some ((y ())[(m ()).toNat]):=by
   exact getElem?_pos (y ()) _ h1
  have h3:(y ()).data.toList.getD (m ()).toNat 0=(y ())[(m ()).toNat]:=by
   rw [List.getD_eq_getElem?_getD,ea (by simpa using h1)]
   rfl
  simp [execOp,ho,hx,To,Instr.index,asIntOf,run_underlying cu,h0,h2]
  rw [<-h3]
  simp
 ·rename_i n e cs hd ex
  rw [hd] at cu
  split at h<;>first|exact h.elim|skip
  rename_i j k m hj em
  have J:=C.tt _ _ hj
  split at h<;>first|exact h.elim|skip
  rename_i hm
  split at h<;>first|exact h.elim|skip
  rename_i v hv
  rw [em] at cZ
  rw [ex] at hx
  simp only [rel] at cZ hx
  obtain ⟨vs,h1,h2⟩:=hx
  obtain ⟨h3,h4⟩:=Hl J hv h2
  refine eh D (λw=>?_) h4 h
  have xl:0<=m/\m < (n:Int):=by omega
  simp [execOp,ho,h1,cZ,Instr.index,asIntOf,run_underlying cu,xl,run_sizeOf J,part,KZ J]
  cases hq:j.agg
  ·simp only [oX,if_false]
   have hp:=J.pos
   simp at h3
   have aO:m.toNat*j.size < vs.length:=by omega
   simp [kb,aO]
  ·simp [Eh]
  ·rename_i j k m hj em
   have J:=C.tt _ _ hj
   split at h<;>first|exact h.elim|skip
   obtain ⟨g,⟨hg,IZ,amY⟩,h⟩:=h
   rw [em] at cZ
   rw [ex] at hx
   simp only [rel] at cZ hx
   rw [hg] at cZ
   obtain ⟨vs,h1,h2⟩:=hx
   obtain ⟨v,hv⟩:=sX.1 amY
   obtain ⟨h3,h4⟩:=Hl J hv h2
   simp only [hv] at h
   refine eh D (λw=>?_) h4 h
   simp [execOp,ho,h1,cZ,Instr.index,asIntOf,run_underlying cu,IZ,run_sizeOf J,part,KZ J]
   cases hq:j.agg
   ·simp only [oX,if_false]
    have hp:=J.pos
    simp at h3
    have aO:g*j.size < vs.length:=by omega
    simp [kb,aO]
   ·simp [Eh]
theorem aj0 (C:X.Ok P) (D:Den f s η H a w) (t:TypeId) (x:Operand) (j:Nat) (ho:o.op=.field t x j) (h:(Lx X t (Vc.ev s x) j).K R):fm P f s o a w R:=by
 have hx:=D.ev x
 unfold Lx at h
 split at h<;>first|exact h.elim|skip
 rename_i i cs hi ex
 have I:=C.tt _ _ hi
 have cu:=I.desc
 split at h<;>first|exact h.elim|skip
 rename_i fs hd
 rw [hd] at cu
 obtain ⟨gs,h1,h2,h3⟩:=cu
 split at h<;>first|exact h.elim|skip
 rename_i ft off sz hj
 split at h<;>first|exact h.elim|skip
 rename_i k hk
 have Kk:=C.tt _ _ hk
 split at h<;>first|exact h.elim|skip
 rename_i v hv
 have aO:j < gs.size:=by rw [h2];exact (a7.1 hj).1
 obtain ⟨inf,h4,h5,h6⟩:=h3 j gs[j] (by simp [aO])
 rw [hj] at h6
 simp at h6
 rw [ex] at hx
 simp only [rel] at hx
 obtain ⟨vs,h7,h8⟩:=hx
 obtain ⟨h9,h10⟩:=Hl Kk hv h8
 refine eh D (λw=>?_) h10 h
 simp [execOp,ho,h7,Instr.field,run_underlying h1,aO,asAgg,part,<-h6.1,<-h6.2.1,KZ Kk,run_sizeOf Kk]
 cases hq:k.agg
 ·simp only [oX,if_false]
  have hp:=Kk.pos
  simp at h9
  have aO:off < vs.length:=by omega
  simp [kb,aO]
 ·simp [Eh]
end
def mV (η:Nat->Value) (l:Nat) (v:Value):Nat->Value:=λk=>if k=l then v else η k
theorem fP (η:Nat->Value) (l:Nat) (v:Value):mV η l v l=v:=by simp [mV]
theorem kI (η:Nat->Value) (l:Nat) (v:Value) (k:Nat) (h:k≠l):mV η l v k=η k:=by simp [mV,h]
section
variable {P:Program} {X:Ctx} {f:Fr} {s:St} {η:Nat->Value} {H:bu} {a:Act} {w:World} {o:Oper} {R:SV->List (Nat × Slot)->Prop}
theorem OY (t:TypeId) (v:Value) (w:World):(newVar t v).run P w=.ok ⟨w.heap.size,0,none⟩ (w.alloc (.cells v.cells t)):=by
 simp [newVar,newRow]
theorem VZ (D:Den f s η H a w) {l:Nat} (hl:s.b[l]?=some .un) {e:TypeId} {cs:List SV} {v:Value} (hc:aP η (aS s.b) H cs v.cells.toList)
  (hr:(execOp a.eval o).run P w=.ok (.value (.pointer (some ⟨w.heap.size,0,none⟩))) (w.alloc (.cells v.cells e)))
  (h:R (.ptr l 0) [(l,.fix e cs)]):fm P f s o a w R:=by
 refine ⟨_,_,h,λK Q hk=>?_⟩
 unfold Oper.wp
 rw [hr]
 have aO:=(a7.1 hl).1
 have D':=D.change (w':=w.alloc (.cells v.cells e)) (η':=mV η l (.pointer (some ⟨w.heap.size,0,none⟩))) (l:=l) (x:=.fix e cs) none (b':=s.b.set l (.fix e cs)) rfl
  (λk hk=>kI _ _ _ k hk) (.inl hl) rfl (λ_ h=>by cases h) none (World.grownBy_alloc w _ none) (λk hk=>by cases hk)
  (λb hb=>.inl (by rw [fP] at hb;simp [cy] at hb;omega))
  (λT=>⟨w.heap.size,v.cells,fP _ _ _,heap_alloc_new w _,gC T (bu.le.refl H) _ _ hc⟩)
 refine hk _ H _ _ (Den.put D' o.dst ?_)
 simp only [rel,s8 l aO,if_true,Slot.live]
 exact ⟨_,fP _ _ _,rfl⟩
theorem aj1 (C:X.Ok P) (D:Den f s η H a w) {l:Nat} (hl:s.b[l]?=some .un) (e:TypeId) (ho:o.op=.alloc e) {i:TI} (hi:X.tt e=some i)
  (h:R (.ptr l 0) [(l,.fix e (i.zero.cells.toList.map kL))]):fm P f s o a w R:=by
 have I:=C.tt _ _ hi
 obtain ⟨inf,h1,h2,h3,h4⟩:=I.info
 refine VZ D hl (v:=i.zero) (zD η _ H _) ?_ h
 simp [execOp,ho,Instr.alloc,zeroValue,typeInfo,h1,h4,OY]
theorem amZ (C:X.Ok P) (D:Den f s η H a w) {l:Nat} (hl:s.b[l]?=some .un) (e:TypeId) (x:Operand) (ho:o.op=.box e x) {cs:List SV} (hc:(Vc.ev s x).cells?=some cs)
  (h:R (.ptr l 0) [(l,.fix e cs)]):fm P f s o a w R:=by
 refine VZ D hl (v:=a.eval x) (P5 hc (D.ev x)).1 ?_ h
 simp [execOp,ho,Instr.box,OY]
theorem WZ (f:Nat->Nat):∀(us:List Value) (k:Nat) (cs:List Value) (off:Nat),(us.zipIdx k).foldl (λ(cs:Array Value) (p:Value × Nat)=>cs.setIfInBounds (off+p.2) p.1) cs.toArray =
  (cs.take (off+k)++us++cs.drop (off+k+us.length)).toArray\/cs.length < off+k+us.length
 | [],k,cs,off=>by left;simp
 | u :: us,k,cs,off=>by
  by_cases hl:cs.length < off+k+(us.length+1)
  ·right;simpa using hl
  left
  rcases WZ f us (k+1) (cs.set (off+k) u) off with h|h
  ·simp only [List.zipIdx_cons,nN,List.setIfInBounds_toArray]
   rw [h]
   congr 1
   have:=list_seg_step cs (off+k) u us (by omega)
   simpa [Nat.add_assoc,Nat.add_comm,Nat.add_left_comm] using this
  ·simp at h;omega
theorem Lm {q:Nat->Live} (place:Nat->Option (Nat × Nat)):∀(ps:List (Nat × SV)) (vs:List (Nat × Value)) (cs:List SV) (us:List Value) (yP:List SV),
  vs.map (·.1)=ps.map (·.1)->aP η q H (ps.map (·.2)) (vs.map (·.2))->aP η q H cs us->Cp place ps cs=some yP ->
  ∃Ns:List Value,Instr.fill place us.toArray vs=some Ns.toArray/\aP η q H yP Ns
 | [],vs,cs,us,yP,h1,h2,h3,h4=>by
  simp at h1;subst h1
  simp [Cp] at h4;subst h4
  exact ⟨us,by simp [Instr.fill],h3⟩
 | (j,x) :: ps,[],cs,us,yP,h1,h2,h3,h4=>by simp at h1
 | (j,x) :: ps,(j',v) :: vs,cs,us,yP,h1,h2,h3,h4=>by
  simp at h1
  obtain ⟨rfl,h1⟩:=h1
  simp only [iG,aP] at h2
  obtain ⟨v',nm,e,h5,h6⟩:=h2
  simp at e
  obtain ⟨rfl,rfl⟩:=e
  simp only [Cp] at h4
  split at h4
  ·rename_i off size ys hp oF
   split at h4
   ·rename_i hc
    obtain ⟨fc,r8⟩:=hc
    obtain ⟨a1,a2⟩:=P5 oF h5
    have gQ:=jj a1
    have FL:=jj h3
    have R4:=Kl (off:=off) a1 h3 r8
    obtain ⟨Ns,b1,b2⟩:=Lm place ps vs _ _ yP h1 h6 R4 h4
    refine ⟨Ns,?_,b2⟩
    rw [Instr.fill,hp]
    simp only
    have gk:v.cells.size=size:=by simp at gQ;omega
    rw [if_neg (by simp [gk];simp at gQ;omega)]
    rw [<-b1]
    congr 1
    rw [<-Array.foldl_toList]
    rcases WZ id v.cells.toList 0 us off with h|h
    ·simpa using h
    ·simp at h;simp at gQ;omega
   ·cases h4
  ·cases h4
theorem XP {α β:Type} (g:α->Sem β) (r:α->β):∀(l:List α),(∀x∈l,∀w,(g x).run P w=.ok (r x) w)->∀w,(l.mapM g).run P w=.ok (l.map r) w
 | [],_,w=>by simp
 | x :: l,h,w=>by
  have h1:=h x (by simp) w
  have h2:=XP g r l (λy hy=>h y (by simp [hy])) w
  rw [G8]
  simp only [Sem.run_bind,h1,Result.andThen_ok,h2,Sem.run_pure,iG]
theorem ahK {α β:Type} (g:α->Sem β) (r:α->β) (l:Array α) (h:∀x∈l.toList,∀w,(g x).run P w=.ok (r x) w) (w:World):(l.mapM g).run P w=.ok (l.map r) w:=by
 rw [WR]
 rw [map_eq_pure_bind]
 have h2:=XP (P:=P) g r l.toList h w
 rw [Sem.run_bind,h2]
 simp only [Result.andThen_ok,Sem.run_pure]
 rw [<-Array.toList_map,GY]
theorem PL (s:St) (a:Act) (ps:List (Nat × Operand)) (D:Den f s η H a w) :
  aP η (aS s.b) H ((ps.map λp=>(p.1,Vc.ev s p.2)).map (·.2)) ((ps.map λp=>(p.1,a.eval p.2)).map (·.2)):=by
 have h:=D.C5 (ps.map λp=>p.2)
 rw [KX,KX] at h ⊢
 exact h
theorem aj2 (C:X.Ok P) (D:Den f s η H a w) (t:TypeId) (parts:Array (Nat × Operand)) (ho:o.op=.build t parts)
  (h:(Lw X t (parts.toList.map λp=>(p.1,Vc.ev s p.2))).K R):fm P f s o a w R:=by
 unfold Lw at h
 split at h<;>first|exact h.elim|skip
 rename_i i hi
 have I:=C.tt _ _ hi
 obtain ⟨inf,n1,n2,n3,n4⟩:=I.info
 have cu:=I.desc
 have Lz:(parts.map λ(x:Nat × Operand)=>(x.1,a.eval x.2)).toList=parts.toList.map λp=>(p.1,a.eval p.2):=by simp
 have hz:aP η (aS s.b) H (i.zero.cells.toList.map kL) i.zero.cells.toList:=zD η _ H _
 split at h<;>first|exact h.elim|skip
 ·rename_i fs hd
  rw [hd] at cu
  obtain ⟨gs,h1,h2,h3⟩:=cu
  split at h<;>first|exact h.elim|skip
  rename_i cs gk
  obtain ⟨us,g1,g2⟩:=Lm _ _ (parts.toList.map λp=>(p.1,a.eval p.2)) _ _ _ (by simp [KR]) (PL s a _ D) hz gk
  have hm:=ahK (P:=P) (λf:Field=>do pure (f.offset,<-sizeOf f.type)) (λf=>(f.offset,P.cellsOf f.type)) gs (λx hx w=>by
   obtain ⟨j,hj⟩:=zN.1 hx
   obtain ⟨inf,b1,b2,b3⟩:=h3 j x (by simpa using hj)
   simp [sizeOf,typeInfo,b1,Program.cellsOf])
  have hpl:(λj:Nat=>(gs.map λf=>(f.offset,P.cellsOf f.type))[j]?)=λj:Nat=>(fs[j]?).map (λp=>p.2):=by
   funext j
   cases hj:gs[j]? with
   | none =>
    have:fs[j]?=none:=by
     rw [List.getElem?_eq_none_iff,<-h2]
     simpa using hj
    simp [hj,this]
   | some f =>
    obtain ⟨inf,b1,b2,b3⟩:=h3 j f hj
    simp [hj,b3,Program.cellsOf,b1]
  refine eh D (v:=.agg us.toArray) (λw=>?_) (by simp only [rel];exact ⟨us,rfl,g2⟩) h
  simp only [execOp,ho,Sem.run_bind,Instr.build,zeroValue,typeInfo,run_program,n1,Result.andThen_ok,n4,Sem.run_pure,run_underlying h1,hm w]
  rw [hpl]
  simp only [GY] at g1
  rw [show (parts.map λ(x:Nat × Operand)=>(x.1,a.eval x.2)).toList=parts.toList.map λp=>(p.1,a.eval p.2) from Lz,g1]
  rfl
 ·rename_i n e hd
  rw [hd] at cu
  split at h<;>first|exact h.elim|skip
  rename_i k hk
  have Kk:=C.tt _ _ hk
  split at h<;>first|exact h.elim|skip
  rename_i cs gk
  obtain ⟨us,g1,g2⟩:=Lm _ _ (parts.toList.map λp=>(p.1,a.eval p.2)) _ _ _ (by simp [KR]) (PL s a _ D) hz gk
  refine eh D (v:=.agg us.toArray) (λw=>?_) (by simp only [rel];exact ⟨us,rfl,g2⟩) h
  simp only [execOp,ho,Sem.run_bind,Instr.build,zeroValue,typeInfo,run_program,n1,Result.andThen_ok,n4,Sem.run_pure,run_underlying cu,run_sizeOf Kk]
  simp only [GY] at g1
  rw [show (parts.map λ(x:Nat × Operand)=>(x.1,a.eval x.2)).toList=parts.toList.map λp=>(p.1,a.eval p.2) from Lz,g1]
  rfl
end
section
variable {P:Program} {X:Ctx} {f:Fr} {s:St} {η:Nat->Value} {H:bu} {a:Act} {w:World} {o:Oper} {R:SV->List (Nat × Slot)->Prop}
theorem Den.share (D:Den f s η H a w) {w':World} {H':bu} (g:w.grownBy w' none) (hle:H.le H') (dw:H'.iZ w') (bV:∀b,H' b≠none->H b≠none\/w.heap.size<=b):Den f s η H' a w':=by
 have D1:=D.grown g
 exact {
  t:=gC (iI.refl _ _) hle _ _ D1.t
  sv:=gC (iI.refl _ _) hle _ _ D1.sv
  d:=D1.d
  h0:=D1.h0.trans hle
  hw:=dw
  fw:=D1.fw
  hf:=λb hb=>by
   rcases bV b hb with h|h
   ·exact D1.hf b h
   ·right
    cases hF:f.F b with
    | none=>rfl
    | some x=>have:=(fQ.1 (D.fw b x hF)).1;omega
  sl:=λl x hx=>(D1.sl l x hx).kept (iI.refl _ _) hle rfl λb hb=>rfl
  dj:=D1.dj
  dh:=λl b hl hb=>by
   refine ⟨?_,(D1.dh l b hl hb).2⟩
   cases hH:H' b with
   | none=>rfl
   | some x =>
    rcases bV b (by rw [hH];simp) with h|h
    ·exact absurd (D1.dh l b hl hb).1 h
    ·have:=D.BY hl hb;omega
  os:=D1.os
  tape:=D1.tape
  out:=D1.out }
theorem V0 {α:Type 1} (xs:List α):∀n,(uz xs n).length=n*xs.length
 | 0=>by simp [uz]
 | n+1=>by simp [uz,V0 xs n,Nat.add_mul];omega
theorem XQ {α:Type 1} (xs:List α):∀n j,j < n*xs.length->(uz xs n)[j]?=xs[j % xs.length]?
 | 0,j,h=>by simp at h
 | n+1,j,h=>by
  simp only [uz]
  by_cases hj:j < xs.length
  ·rw [ka hj,Px hj]
  ·rw [qi (by omega),XQ xs n (j - xs.length) (by rw [Nat.add_mul] at h;omega)]
   rw [Nat.mod_eq_sub_mod (a:=j) (by omega)]
theorem W0 {q:Nat->Live} {xs:List SV} {zs:List Value} (h:aP η q H xs zs) {n:Nat} {vs:List Value} (hl:vs.length=n*zs.length) (hv:∀j,j < n*zs.length->vs[j]?=zs[j % zs.length]?) :
  aP η q H (uz xs n) vs:=by
 have he:=jj h
 refine Kr (by rw [V0,hl,he]) λj x u hx hu=>?_
 have hj:j < n*zs.length:=by rw [<-hl];exact (a7.1 hu).1
 rw [XQ xs n j (by rw [<-he];exact hj)] at hx
 rw [hv j hj,he] at hu
 obtain ⟨u',h1,h2⟩:=ud h _ x hx
 rw [h1] at hu
 simp at hu;subst hu;exact h2
theorem XR (z:Array Value) (n j:Nat) (hz:0 < z.size) (hj:j < n):(madeCells z n).toList[j]?=z.toList[j % z.size]?:=by
 have:j % z.size < z.size:=Nat.mod_lt _ hz
 simp [madeCells,hj,this]
theorem flatMap_replicate {T:Type} (c:T->List SV) (z:T):∀n,(List.replicate n z).flatMap c=uz (c z) n
 | 0=>by simp [uz]
 | n+1=>by simp [G2,uz,flatMap_replicate c z n]
theorem xW (D:Den f s η H a w) {l:Nat} (hl:s.b[l]?=some .un) {T:Type} {e:TypeId} {sz:Nat} {c:T->List SV} {xs:Unit->List T} {v:Value} {w':World}
  (hr:(execOp a.eval o).run P w=.ok (.value v) w') (g:w.grownBy w' none) (hv:∀b,cy v=some b->w.heap.size<=b) (hs:Value.isSlice v)
  (iY:jQ (λ_=>v) (λ_=>.un) H w' 0 (.dyn e sz c xs)) (h:R (.own l) [(l,.dyn e sz c xs)]):fm P f s o a w R:=by
 refine ⟨_,_,h,λK Q hk=>?_⟩
 unfold Oper.wp
 rw [hr]
 have aO:=(a7.1 hl).1
 have D':=D.change (w':=w') (η':=mV η l v) (l:=l) (x:=.dyn e sz c xs) none (b':=s.b.set l (.dyn e sz c xs)) rfl
  (λk hk=>kI _ _ _ k hk) (.inl hl) rfl (λ_ h=>by cases h) none g (λk hk=>by cases hk)
  (λb hb=>.inl (hv b (by rw [fP] at hb;exact hb)))
  (λT=>by obtain ⟨vals,h1,h2⟩:=iY;exact ⟨vals,by rw [fP];exact h1,h2⟩)
 refine hk _ H _ _ (Den.put D' o.dst ?_)
 simp only [rel,s8 l aO,if_true,Slot.live]
 exact ⟨(fP _ _ _).symm,hs⟩
theorem agP (C:X.Ok P) (D:Den f s η H a w) {l:Nat} (hl:s.b[l]?=some .un) (t:TypeId) (n m:Operand) (ho:o.op=.makeSlice t n m)
  (h:(GN X l t (Vc.ev s n) (Vc.ev s m)).K R):fm P f s o a w R:=by
 have hn:=D.ev n
 have hm:=D.ev m
 unfold GN at h
 split at h<;>first|exact h.elim|skip
 rename_i i hi
 have I:=C.tt _ _ hi
 have cu:=I.desc
 split at h<;>first|exact h.elim|skip
 rename_i e hd
 rw [hd] at cu
 split at h<;>first|exact h.elim|skip
 rename_i k E _ n' _ m' hk hE h1 h2
 have Kk:=C.tt _ _ hk
 have EE:=C.el _ _ hE
 obtain ⟨inf,n1,n2,n3,n4⟩:=Kk.info
 obtain ⟨⟨p0,p1,p2,p3⟩,hR⟩:=h
 have e1:=mU h1 hn
 have e2:=mU h2 hm
 have hr:=λkl kc=>run_make (P:=P) w t e inf k.zero cu n1 n4 kl kc (n' ()) (m' ()) p0 p1 (by rw [n3];exact p2) p3
 have C6:=Kk.yu
 have r9:=Kk.pos
 refine xW D hl (v:=.slice (some ⟨w.heap.size,0,none⟩) (n' ()).toNat (m' ()).toNat) (w':=w.alloc (.cells (madeCells k.zero.cells ((m' ()).toNat*k.size)) e)) ?_
  (World.grownBy_alloc w _ none) (λb hb=>by simp [cy] at hb<;>omega) ⟨_,_,_,rfl⟩ ?_ hR
 ·simp only [execOp,ho,Sem.run_bind,e1,e2,hr,n2,Result.andThen_ok,Sem.run_pure]
 ·have hle:(n' ()).toNat*k.size<=(m' ()).toNat*k.size:=wM _ (by omega)
  refine ⟨(madeCells k.zero.cells ((m' ()).toNat*k.size)).toList.take ((n' ()).toNat*k.size),.of ⟨?_,.inr ⟨w.heap.size,(m' ()).toNat,_,?_,cg _,heap_alloc_new w _,?_,?_,size_madeCells _ _,?_⟩⟩,?_,?_,EE.lf⟩
  ·simp only [jd,vw,size_madeCells,vr];exact tZ hle
  ·simp
  ·simp;omega
  ·unfold maxLen;omega
  ·simp
  ·rw [flatMap_replicate]
   have hz:=EE.zero k hk H
   refine W0 hz ?_ ?_
   ·simp only [jd,vw,size_madeCells,C6];exact tZ hle
   ·intro j hj
    have jK:k.zero.cells.toList.length=k.size:=by simpa using C6
    rw [jK] at hj ⊢
    rw [lO,if_pos hj,XR _ _ _ (by omega) (by omega),C6]
  ·intro x hx
   exact EE.len k hk x
theorem XS {T:Type} {c:T->List SV} (h:∀z,cN (c z)):∀zs:List T,cN (zs.flatMap c)
 | []=>trivial
 | z :: r=>by
  rw [qR]
  have app:∀a b:List SV,cN a->cN b->cN (a++b):=by
   intro a
   induction a with
   | nil=>intro b _ h;exact h
   | cons x r ih=>intro b h1 h2;exact ⟨h1.1,ih b h1.2 h2⟩
  exact app _ _ (h z) (XS h r)
theorem agB (C:X.Ok P) (D:Den f s η H a w) {l:Nat} (hl:s.b[l]?=some .un) (t:TypeId) (n:Nat) (parts:Array (Nat × Operand)) (ho:o.op=.buildSlice t n parts)
  (h:(GK X l t n (parts.toList.map λp=>(p.1,Vc.ev s p.2))).K R):fm P f s o a w R:=by
 unfold GK at h
 split at h<;>first|exact h.elim|skip
 rename_i i hi
 have I:=C.tt _ _ hi
 have cu:=I.desc
 split at h<;>first|exact h.elim|skip
 rename_i e hd
 rw [hd] at cu
 split at h<;>first|exact h.elim|skip
 rename_i k hk
 have Kk:=C.tt _ _ hk
 obtain ⟨inf,n1,n2,n3,n4⟩:=Kk.info
 have C6:=Kk.yu
 have r9:=Kk.pos
 have Lz:(parts.map λ(x:Nat × Operand)=>(x.1,a.eval x.2)).toList=parts.toList.map λp=>(p.1,a.eval p.2):=by simp
 split at h
 ·split at h<;>first|exact h.elim|skip
  rename_i E hp hE
  have EE:=C.el _ _ hE
  have qD:parts.toList=[]:=by simpa using hp
  have yT:parts=#[]:=by simpa using qD
  have aaX:(execOp a.eval o).run P w=.ok (.value (.slice (some ⟨w.heap.size,0,none⟩) 0 0)) (w.alloc (.cells #[] e)):=by
   simp [execOp,ho,yT,Instr.buildSlice,run_underlying cu,sizeOf,typeInfo,n1,Instr.fill,newRow,Array.range_zero']
  split at h
  ·refine xW D hl (v:=.slice (some ⟨w.heap.size,0,none⟩) 0 0) (w':=w.alloc (.cells #[] e)) aaX
    (World.grownBy_alloc w _ none) (λb hb=>by simp [cy] at hb<;>omega) ⟨_,_,_,rfl⟩ ?_ h
   exact ⟨[],.of (World.ownsRow_made w #[] 0 (cg _) (by simp [maxLen]) (by simp)),by simp [aP],by simp,EE.lf⟩
  ·refine ⟨_,[],h,λK Q hk=>?_⟩
   unfold Oper.wp
   rw [aaX]
   refine hk _ H _ _ ((D.grown (World.grownBy_alloc w _ none)).put o.dst ?_)
   simp only [rel]
   exact ⟨⟨_,0,rfl,fb _,.inl (by simp)⟩,λz=>(EE.lf z).1⟩
 ·rename_i n
  split at h<;>first|exact h.elim|skip
  rename_i hle
  split at h<;>first|exact h.elim|skip
  rename_i cs gk
  have hn:¬(16777216 < (n+1)*k.size):=by omega
  have hn0:(n+1)*k.size≠0:=Nat.mul_ne_zero (by omega) (by omega)
  have jK:k.zero.cells.toList.length=k.size:=by simpa using C6
  have hz:aP η (aS s.b) H (uz (k.zero.cells.toList.map kL) (n+1)) (madeCells k.zero.cells ((n+1)*k.size)).toList:=by
   refine W0 (zD η _ H _) (by simp only [vw,size_madeCells];rw [show k.zero.cells.size=k.size from C6]) λj hj=>?_
   rw [jK] at hj ⊢
   rw [XR _ _ _ (by omega) hj,C6]
  obtain ⟨us,g1,g2⟩:=Lm _ _ (parts.toList.map λp=>(p.1,a.eval p.2)) _ _ _ (by simp [KR]) (PL s a _ D) hz gk
  have iw:(execOp a.eval o).run P w=.ok (.value (.slice (some ⟨w.heap.size,0,none⟩) (n+1) (n+1))) (w.alloc (.cells us.toArray e)):=by
   simp only [execOp,ho,Sem.run_bind,Instr.buildSlice,run_underlying cu,Result.andThen_ok,run_sizeOf Kk]
   rw [if_neg (by simpa using hn),if_neg hn0]
   simp only [Sem.run_bind,zeroValue,typeInfo,run_program,n1,Result.andThen_ok,n4,Sem.run_pure]
   simp only [GY,madeCells] at g1
   rw [show (parts.map λ(x:Nat × Operand)=>(x.1,a.eval x.2)).toList=parts.toList.map λp=>(p.1,a.eval p.2) from Lz,g1]
   rfl
  split at h
  case h_2 =>
   split at h<;>first|exact h.elim|skip
   rename_i E hE
   have EE:=C.el _ _ hE
   obtain ⟨ys,⟨y1,y2⟩,hR⟩:=h
   have g3:=jH y1 g2
   have hlen:us.length=(n+1)*k.size:=by
    have h0:=jj g3
    rw [Po,s6 (g:=λ_=>k.size) (λz _=>EE.len k hk z),PB,Pk,y2] at h0
    exact h0
   have AR:n+1<=(n+1)*k.size:=Nat.le_mul_of_pos_right _ r9
   refine xW D hl (v:=.slice (some ⟨w.heap.size,0,none⟩) (n+1) (n+1)) (w':=w.alloc (.cells us.toArray e)) iw
    (World.grownBy_alloc w _ none) (λb hb=>by simp [cy] at hb<;>omega) ⟨_,_,_,rfl⟩ ?_ hR
   refine ⟨us,.of ⟨by rw [y2];exact hlen,.inr ⟨w.heap.size,n+1,_,by rw [y2],cg _,heap_alloc_new w _,by simp [y2],by unfold maxLen;omega,by simp [hlen],?_⟩⟩,?_,λx _=>EE.len k hk x,EE.lf⟩
   ·rw [y2];simp [<-hlen]
   ·exact kB _ _ (XS (λz=>(EE.lf z).1) ys) g3
  let H':bu:=λb=>if b=w.heap.size then some (.cells us.toArray e) else H b
  have yv:H w.heap.size=none:=by
   cases hH:H w.heap.size with
   | none=>rfl
   | some x=>have:=(fQ.1 (D.hw _ x hH)).1;omega
  have uB:H.le H':=λb x hb=>by
   simp only [H']
   rw [if_neg (by rintro rfl;rw [yv] at hb;cases hb)]
   exact hb
  have D':=D.share (w':=w.alloc (.cells us.toArray e)) (H':=H') (World.grownBy_alloc w _ none) uB
   (λb x hb=>by
    simp only [H'] at hb
    split at hb
    ·rename_i Tp;subst Tp;simp at hb;subst hb;exact heap_alloc_new w _
    ·have:=D.hw b x hb
     rw [(World.grownBy_alloc w _ none).block b (fQ.1 this).1 (by simp)];exact this)
   (λb hb=>by
    simp only [H'] at hb
    split at hb
    ·right;omega
    ·left;exact hb)
  refine ⟨_,[],h,λK Q hk=>?_⟩
  unfold Oper.wp
  rw [iw]
  refine hk _ H' _ _ (D'.put o.dst ?_)
  simp only [rel]
  refine ⟨_,rfl,.inr ⟨⟨w.heap.size,0,none⟩,rfl,rfl,us,gC (iI.refl _ _) uB _ _ g2,?_⟩⟩
  intro j u hu
  simp only [pO,H',if_true]
  simpa using hu
end
end Go.Vc
