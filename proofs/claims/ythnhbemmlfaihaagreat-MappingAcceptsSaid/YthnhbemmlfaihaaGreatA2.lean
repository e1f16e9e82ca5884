import Derived.Test.YthnhbemmlfaihaaGreatA1
import Derived.Maps.AppendAt
set_option linter.unusedVariables false
set_option linter.unusedSimpArgs false
set_option maxRecDepth 10000
set_option maxHeartbeats 64000000
namespace Go.Vc
open Go
section
variable {P:Program} {X:Ctx} {f:Fr} {s:St} {η:Nat->Value} {H:aZ} {a:Act} {w:World} {o:Oper} {R:SV->List (Nat × Slot)->Prop}
theorem Ud {q:Nat->Live} {x y:SV} {u v:Value} {g:Unit->Bool} (he:I1 x y=some g) (hx:rel η q H x u) (hy:rel η q H y v) :
  xD u v=g ()/\rP u v=true:=by
 unfold I1 at he
 split at he
 case h_10=>cases he
 all_goals
  simp only [rel] at hx hy
  subst hx
  subst hy
 case h_1|h_2|h_3|h_4=>simp at he;subst he;exact ⟨rfl,rfl⟩
 case h_5|h_6|h_7|h_8 =>
  split at he
  ·rename_i hk;subst hk;simp at he;subst he;exact ⟨rfl,by simp [rP]⟩
  ·cases he
 case h_9=>simp at he;subst he;exact ⟨rfl,rfl⟩
theorem Mc {q:Nat->Live}:∀{xs ys:List SV} {us vs:List Value} {g:Unit->Bool},xF xs ys=some g->aL η q H xs us->aL η q H ys vs ->
  pQ us vs=g ()/\nN us vs=true
 | [],[],us,vs,g,he,hx,hy=>by
  simp only [aL] at hx hy;subst hx;subst hy;simp [xF] at he;subst he;exact ⟨rfl,rfl⟩
 | x :: xs,y :: ys,us,vs,g,he,hx,hy=>by
  simp only [aL] at hx hy
  obtain ⟨u,us,rfl,h1,h2⟩:=hx
  obtain ⟨v,vs,rfl,h3,h4⟩:=hy
  simp only [xF] at he
  split at he
  ·rename_i f g' hf hg
   simp at he;subst he
   have a1:=Ud hf h1 h3
   have a2:=Mc hg h2 h4
   simp [pQ,nN,a1,a2]
  ·cases he
 | [],y :: ys,us,vs,g,he,hx,hy=>by simp [xF] at he
 | x :: xs,[],us,vs,g,he,hx,hy=>by simp [xF] at he
theorem run_equalIn_bool {t:TypeId} (hd:P.underlying t=some .bool) (d:Nat) (x y:Bool) (w:World) :
  (Op.equalIn (d+1) t (.bool x) (.bool y)).run P w=.ok (x == y) w:=by
 simp [Op.equalIn,run_underlying hd]
theorem run_equal_bool {t:TypeId} (hd:P.underlying t=some .bool) (x y:Bool) (w:World) :
 (Op.equal t (.bool x) (.bool y)).run P w=.ok (x == y) w:=run_equalIn_bool hd 9999 x y w
theorem ab4 {q:Nat->Live} {x y:SV} {u v:Value} {p:Unit->Prop} (hp:MS x y=some p) (hx:rel η q H x u) (hy:rel η q H y v) :
  ∃a n c b m d,u=.slice a n c/\v=.slice b m d/\(a=none\/b=none)/\((a.isNone&&b.isNone)=true->p ()):=by
 have own:∀{l:Nat} {u:Value},rel η q H (.own l) u->∃a n c,u=.slice a n c:=by
  intro l u h
  simp only [rel] at h
  split at h
  ·exact h.elim
  ·exact h
  ·exact h.2
 unfold MS at hp
 split at hp<;>simp at hp
 ·subst hp
  simp only [rel] at hx hy
  obtain ⟨⟨ad,cap,h1,h2,h3⟩,_⟩:=hx
  refine ⟨_,_,_,_,_,_,h1,hy,.inr rfl,λh=>?_⟩
  rcases h3 with h3|⟨a,rfl,_⟩
  ·exact h3
  ·simp at h
 ·subst hp
  simp only [rel] at hx hy
  obtain ⟨⟨ad,cap,h1,h2,h3⟩,_⟩:=hy
  refine ⟨_,_,_,_,_,_,hx,h1,.inl rfl,λh=>?_⟩
  rcases h3 with h3|⟨a,rfl,_⟩
  ·exact h3
  ·simp at h
 ·subst hp
  obtain ⟨a,n,c,h⟩:=own hx
  simp only [rel] at hy
  exact ⟨_,_,_,_,_,_,h,hy,.inr rfl,λ_=>trivial⟩
 ·subst hp
  obtain ⟨a,n,c,h⟩:=own hy
  simp only [rel] at hx
  exact ⟨_,_,_,_,_,_,hx,h,.inl rfl,λ_=>trivial⟩
theorem aaJ {t e:TypeId} (hd:P.underlying t=some (.slice e)) (k:Nat) (a b:Option Addr) (n c m d:Nat) (gy:a=none\/b=none) (w:World) :
  (Op.equalIn (k+1) t (.slice a n c) (.slice b m d)).run P w=.ok (a.isNone&&b.isNone) w:=by
 rcases gy with rfl|rfl
 ·simp [Op.equalIn,run_underlying hd]
 ·cases a<;>simp [Op.equalIn,run_underlying hd]
theorem KL {t e:TypeId} (hd:P.underlying t=some (.slice e)) (a b:Option Addr) (n c m d:Nat) (gy:a=none\/b=none) (w:World) :
 (Op.equal t (.slice a n c) (.slice b m d)).run P w=.ok (a.isNone&&b.isNone) w:=aaJ hd 9999 a b n c m d gy w
theorem aaM {t k e:TypeId} (hd:P.underlying t=some (.map k e)) (d:Nat) (a b:Option Nat) (gy:a=none\/b=none) (w:World) :
  (Op.equalIn (d+1) t (.map a) (.map b)).run P w=.ok (a.isNone&&b.isNone) w:=by
 unfold Op.equalIn
 simp only [Sem.run_bind,run_underlying hd,Result.andThen_ok]
 rcases gy with rfl|rfl
 ·simp
 ·cases a<;>simp
theorem QQ {t k e:TypeId} (hd:P.underlying t=some (.map k e)) (a b:Option Nat) (gy:a=none\/b=none) (w:World) :
 (Op.equal t (.map a) (.map b)).run P w=.ok (a.isNone&&b.isNone) w:=aaM hd 9999 a b gy w
theorem Sm {q:Nat->Live} {x y:SV} {v u:Value} {d:Bool} {p:Unit->Prop} (h:MT x y=some (d,p)) (hx:rel η q H x v) (hy:rel η q H y u) (hp:p ()) :
  ∃a b:Option Nat,v=.map a/\u=.map b/\(a=none\/b=none)/\d=(a.isNone&&b.isNone):=by
 unfold MT at h
 split at h<;>simp at h
 ·obtain ⟨rfl,rfl⟩:=h
  simp only [rel] at hx hy
  exact ⟨none,none,hx.trans hp.1,hy.trans hp.2,.inl rfl,rfl⟩
 ·obtain ⟨rfl,rfl⟩:=h
  simp only [rel] at hx hy
  obtain ⟨wm,n,hn⟩:=hp
  rcases hx.1 with ⟨_,h2⟩|⟨r,_,_,h1,_⟩
  ·exact absurd (h2 n) hn
  ·exact ⟨some r,none,h1,hy.trans wm,.inr rfl,rfl⟩
 ·obtain ⟨rfl,rfl⟩:=h
  simp only [rel] at hx hy
  obtain ⟨wm,n,hn⟩:=hp
  rcases hy.1 with ⟨_,h2⟩|⟨r,_,_,h1,_⟩
  ·exact absurd (h2 n) hn
  ·exact ⟨none,some r,hx.trans wm,h1,.inl rfl,rfl⟩
theorem agI (C:X.Ok P) (D:Den f s η H a w) (op:BinOp) (t t':TypeId) (x y:Operand) (ho:o.op=.binOp op t x y t')
  (h:(I4 X op t (Vc.ev s x) (Vc.ev s y)).K R):eM P f s o a w R:=by
 have hx:=D.ev x
 have hy:=D.ev y
 unfold I4 at h
 split at h
 ·rename_i hs
  split at h
  ·rename_i k m k' n h1 h2
   obtain ⟨⟨h0⟩,h⟩:=h
   have e1:=lz h1 hx
   have e2:=lz h2 hy
   have hn:¬n () < 0:=by omega
   cases op<;>simp only [ze] at hs<;>first|cases hs|skip
   ·refine dG D (v:=.int k (k.wrap (m ()*2^min (n ()).toNat k.bits))) (λw=>?_) (by simp only [rel]) h
    simp [execOp,ho,e1,e2,eqGuard,binOp,Op.shift,hn]
   ·refine dG D (v:=.int k ((m ()).fdiv (2^min (n ()).toNat k.bits))) (λw=>?_) (by simp only [rel]) h
    simp [execOp,ho,e1,e2,eqGuard,binOp,Op.shift,hn]
  ·exact h.elim
 ·rename_i hs
  split at h
  ·rename_i k m k' n hl ex ey
   split at h
   ·rename_i hk
    subst hk
    obtain ⟨Y,hR,_,hY⟩:=ac3 h
    have hp:∃Z,xx op k (λ_=>m) (λ_=>n)=.pure Z []:=by
     cases op<;>simp only [BH,dN.K] at h<;>first|exact h.elim|exact ⟨_,rfl⟩
    obtain ⟨Z,hZ⟩:=hp
    have e1:a.eval x=.int k m:=by rw [ex] at hx;simpa only [rel] using hx
    have e2:a.eval y=.int k n:=by rw [ey] at hy;simpa only [rel] using hy
    have main:∀v,(∀w,(match op with
      | .add|.sub|.mul=>Op.intArith op k m n
      | .quo|.rem=>Op.intDiv op k m n
      | .and|.or|.xor|.andNot=>Op.intBits op k m n
      | _=>Op.intCmp op m n:Sem Value).run P w=.ok v w)->rel η (aO s.b) H Z v->eM P f s o a w R:=by
     intro v hv hr
     refine dG D (v:=v) (λw=>?_) (hY v η _ H Z hZ hr) hR
     have:=RG hv hs t x y w
     simp only [execOp,ho,e1,e2,Sem.run_bind,this,Result.andThen_ok,Sem.run_pure]
    cases op<;>simp only [BH,dN.K] at h<;>first|exact h.elim|skip
    all_goals
     simp only [xx,dN.pure.injEq,and_true] at hZ
     subst hZ
    ·exact main (.int k _) (λw=>rfl) (by simp only [rel])
    ·exact main (.int k _) (λw=>rfl) (by simp only [rel])
    ·exact main (.int k _) (λw=>rfl) (by simp only [rel])
    ·exact main (.bool _) (λw=>rfl) (by simp only [rel,ga])
    ·exact main (.bool _) (λw=>rfl) (by simp only [rel,ga,bne])
    ·exact main (.bool _) (λw=>rfl) (by simp only [rel,fk])
    ·exact main (.bool _) (λw=>rfl) (by simp only [rel,iG])
    ·exact main (.bool _) (λw=>rfl) (by simp only [rel,fk])
    ·exact main (.bool _) (λw=>rfl) (by simp only [rel,iG])
   ·exact h.elim
  ·split at h
   ·rename_i k m k' n h1 h2
    split at h
    ·rename_i hk
     subst hk
     exact ac2 D op t t' x y ho hs h1 h2 h
    ·exact h.elim
   ·split at h
    ·rename_i m n e1 e2
     rw [e1] at hx;rw [e2] at hy
     simp only [rel] at hx hy
     split at h
     ·obtain ⟨⟨h0⟩,h⟩:=h
      have h3:¬(9223372036854775807 < ((m ()).size:Int)+((n ()).size:Int)):=by omega
      refine dG D (v:=.string (m ()++n ())) (λw=>?_) (by simp only [rel]) h
      simp [execOp,ho,hx,hy,eqGuard,binOp,Op.stringOp,IntKind.max,IntKind.signed,IntKind.bits,h3]
     all_goals first|exact h.elim|skip
     ·refine dG D (v:=.bool _) (λw=>?_) (by simp only [rel];rfl) h
      simp [execOp,ho,hx,hy,eqGuard,binOp,Op.stringOp,uD,uv]
     ·refine dG D (v:=.bool _) (λw=>?_) (by simp only [rel];rfl) h
      simp [execOp,ho,hx,hy,eqGuard,binOp,Op.stringOp,uD,uv]
     ·refine dG D (v:=.bool _) (λw=>?_) (by simp only [rel];rfl) h
      simp [execOp,ho,hx,hy,eqGuard,binOp,Op.stringOp,uD,uv]
     ·refine dG D (v:=.bool _) (λw=>?_) (by simp only [rel];rfl) h
      simp [execOp,ho,hx,hy,eqGuard,binOp,Op.stringOp,uD,uv]
     ·refine dG D (v:=.bool _) (λw=>?_) (by simp only [rel];rfl) h
      simp [execOp,ho,hx,hy,eqGuard,binOp,Op.stringOp,uD,uv]
     ·refine dG D (v:=.bool _) (λw=>?_) (by simp only [rel];rfl) h
      simp [execOp,ho,hx,hy,eqGuard,binOp,Op.stringOp,uD,uv]
    ·rename_i cs ds e1 e2
     split at h
     ·rename_i i hi
      split at h
      ·rename_i hc
       simp only [b9,beq_iff_eq] at hc
       split at h
       ·rename_i g g' hg kI
        have I:=C.tt _ _ hi
        rw [e1] at hx;rw [e2] at hy
        simp only [rel] at hx hy
        obtain ⟨vs,wo,om⟩:=hx
        obtain ⟨us,j2,oo⟩:=hy
        have a1:=Mc hg om oo
        have a2:=Mc kI om (wZ η _ H _)
        have run:=λw Fw=>(I.flat hc.1.1).2 vs us w (by rw [ie om];exact hc.1.2) (by rw [ie oo];exact hc.2) a1.2 a2.2 Fw x y
        split at h
        ·refine dG D (v:=.bool _) (λw=>?_) (by simp only [rel];rw [<-a1.1]) h
         have:=run w .eql (.inl rfl)
         simp only [execOp,ho,wo,j2]
         rw [Sem.run_bind,this]
         simp
        ·refine dG D (v:=.bool _) (λw=>?_) (by simp only [rel];rw [<-a1.1]) h
         have:=run w .neq (.inr rfl)
         simp only [execOp,ho,wo,j2]
         rw [Sem.run_bind,this]
         simp
        ·exact h.elim
       ·exact h.elim
      ·exact h.elim
     ·exact h.elim
    ·split at h
     ·rename_i i hi
      have I:=C.tt _ _ hi
      have hd:=I.desc
      split at h
      ·rename_i ed
       rw [ed] at hd
       split at h
       ·rename_i g m n hg hm hn
        have e1:=HX hm hx
        have e2:=HX hn hy
        have a1:=Ud hg hx hy
        rw [e1,e2] at a1
        have a3:(m () == n ())=g ():=a1.1
        split at h
        ·refine dG D (v:=.bool (g ())) (λw=>?_) (by simp only [rel]) h
         simp [execOp,ho,e1,e2,eqGuard,binOp,run_equal_bool hd,a3]
        ·refine dG D (v:=.bool (!g ())) (λw=>?_) (by simp only [rel]) h
         simp [execOp,ho,e1,e2,eqGuard,binOp,run_equal_bool hd,a3]
        ·exact h.elim
       ·exact h.elim
      ·rename_i ek e ed
       rw [ed] at hd
       split at h
       ·rename_i d p hp
        split at h
        ·obtain ⟨⟨Ah⟩,h⟩:=h
         obtain ⟨a1,b1,e1,e2,gy,rfl⟩:=Sm hp hx hy Ah
         refine dG D (v:=.bool _) (λw=>?_) (by simp only [rel];rfl) h
         simp [execOp,ho,e1,e2,eqGuard,binOp,QQ hd a1 b1 gy]
        ·obtain ⟨⟨Ah⟩,h⟩:=h
         obtain ⟨a1,b1,e1,e2,gy,rfl⟩:=Sm hp hx hy Ah
         refine dG D (v:=.bool _) (λw=>?_) (by simp only [rel];rfl) h
         simp [execOp,ho,e1,e2,eqGuard,binOp,QQ hd a1 b1 gy]
        ·exact h.elim
       ·exact h.elim
      ·rename_i e ed
       rw [ed] at hd
       have fin:∀(u b:Option Addr) (n c m d:Nat),a.eval x=.slice u n c->a.eval y=.slice b m d->(u=none\/b=none)->∀(Y:SV) (r:Bool),(op=.eql/\r=(u.isNone&&b.isNone)\/op=.neq/\r=!(u.isNone&&b.isNone)) ->
         rel η (aO s.b) H Y (.bool r)->R Y []->eM P f s o a w R:=by
        intro u b n c m d e1 e2 JF Y r hr hY hR
        refine dG D (v:=.bool r) (λw=>?_) hY hR
        rcases hr with ⟨rfl,rfl⟩|⟨rfl,rfl⟩<;>simp [execOp,ho,e1,e2,eqGuard,binOp,KL hd u b n c m d JF]
       split at h
       ·rename_i p hp
        obtain ⟨u,n,c,b,m,d,e1,e2,JF,hq⟩:=ab4 hp hx hy
        split at h
        ·exact fin u b n c m d e1 e2 JF _ _ (.inl ⟨rfl,rfl⟩) (by simp only [rel];exact ⟨_,rfl,hq⟩) h
        ·exact fin u b n c m d e1 e2 JF _ _ (.inr ⟨rfl,rfl⟩) (by simp only [rel];exact ⟨_,rfl,λe=>hq (by simpa using e)⟩) h
        ·exact h.elim
       ·split at h
        ·rename_i e1 e2 _
         rw [e1] at hx;rw [e2] at hy
         simp only [rel] at hx hy
         exact fin _ _ _ _ _ _ hx hy (.inl rfl) _ _ (.inl ⟨rfl,rfl⟩) (by simp only [rel];rfl) h
        ·rename_i e1 e2 _
         rw [e1] at hx;rw [e2] at hy
         simp only [rel] at hx hy
         exact fin _ _ _ _ _ _ hx hy (.inl rfl) _ _ (.inr ⟨rfl,rfl⟩) (by simp only [rel];rfl) h
        ·exact h.elim
      ·exact h.elim
     ·exact h.elim
end
theorem LO {H:aZ} {w:World} (h:H.gR w) {b o:Nat} {u:Value} (hc:nW H b o=some u):w.cell? ⟨b,o,none⟩=some u:=by
 unfold nW at hc
 split at hc
 ·rename_i c e fz he
  simp [World.cell?,h b _ he,hc]
 ·cases hc
theorem qI (b o j:Nat):(⟨b,o,none⟩:Addr).add j=⟨b,o+j,none⟩:=by
 unfold Addr.add
 split
 ·rename_i h;subst h;simp
 ·rfl
theorem nK (a:Addr) (h:a.spot=none) (j:Nat):a.add j=⟨a.block,a.off+j,none⟩:=by
 obtain ⟨b,o,s⟩:=a
 simp at h;subst h
 exact qI b o j
section
variable {P:Program} {X:Ctx} {f:Fr} {s:St} {η:Nat->Value} {H:aZ} {a:Act} {w:World} {o:Oper} {R:SV->List (Nat × Slot)->Prop}
theorem kV.OP {t:TypeId} {i:TI} (I:kV P t i):∃d,P.underlying t=some d/\((∃x,d=.struct x)\/(∃n e,d=.array n e)↔i.agg=true):=by
 have:=I.desc
 unfold TI.agg
 split at this
 all_goals first
  | exact ⟨_,this,by simp [*]⟩
  | (obtain ⟨fs,h,_⟩:=this;exact ⟨_,h,by simp [*]⟩)
  | (obtain ⟨d,h,h1,h2⟩:=this;exact ⟨d,h,by simp [*]⟩)
theorem Hs {t:TypeId} {i:TI} (I:kV P t i) (w:World):(isAgg t).run P w=.ok i.agg w:=by
 obtain ⟨d,hd,h⟩:=I.OP
 unfold isAgg
 cases hq:i.agg<;>rw [hq] at h<;>simp at h
 ·obtain ⟨h1,h2⟩:=h
  simp only [Sem.run_bind,run_underlying hd,Result.andThen_ok]
  first|rfl|(split<;>first|rfl|(exfalso;simp_all))
 ·simp only [Sem.run_bind,run_underlying hd,Result.andThen_ok]
  rcases h with ⟨x,rfl⟩|⟨n,e,rfl⟩<;>rfl
theorem run_sizeOf {t:TypeId} {i:TI} (I:kV P t i) (w:World):(sizeOf t).run P w=.ok i.size w:=by
 obtain ⟨inf,h1,h2,_⟩:=I.info
 simp [sizeOf,typeInfo,h1,h2]
theorem Rh {t:TypeId} {i:TI} (I:kV P t i) (w:World) (b o:Nat) (vals:List Value) (hl:i.size<=vals.length)
  (hc:∀j u,vals[j]?=some u->w.cell? ⟨b,o+j,none⟩=some u) :
  (loadVar t ⟨b,o,none⟩).run P w=.ok (if i.agg then .agg (vals.take i.size).toArray else vals.getD 0 undef) w:=by
 unfold loadVar
 simp only [Sem.run_bind,Hs I,Result.andThen_ok]
 cases hq:i.agg
 ·simp only [mV,if_false,run_load]
  cases vals with
  | nil=>have:=I.pos;simp at hl;omega
  | cons v r =>
   have:=hc 0 v (by simp)
   simp only [rK] at this
   simp [this]
 ·simp only [if_true,Sem.run_bind,run_sizeOf I,Result.andThen_ok]
  have:=run_loadCells_list (P:=P) (w:=w) ⟨b,o,none⟩ (vals.take i.size) (λj v hv=>by
   rw [qI]
   rw [kR] at hv
   split at hv
   ·exact hc j v hv
   ·cases hv)
  rw [lq,um hl] at this
  simp [this]
theorem DZ {q:Nat->Live} {t:TypeId} {i:TI} (I:kV P t i) {cs:List SV} {vs:List Value} {off:Nat} {x:SV} (hg:rU i cs off=some x) (h:aL η q H cs vs) :
  i.size<=(vs.drop off).length/\rel η q H x (if i.agg then .agg ((vs.drop off).take i.size).toArray else (vs.drop off).getD 0 undef):=by
 have hl:=ie h
 unfold rU at hg
 split at hg
 ·rename_i hle
  refine ⟨by simp;omega,?_⟩
  split at hg
  ·rename_i hq
   simp at hg;subst hg
   simp only [hq,if_true,rel]
   exact ⟨_,rfl,Bj (Bi h off) i.size⟩
  ·rename_i hq
   simp only [hq,if_false,mV]
   obtain ⟨u,h1,h2⟩:=rL h off x hg
   have:(vs.drop off).getD 0 undef=u:=by simp [List.getD_eq_getElem?_getD,jm,h1]
   rw [this];exact h2
 ·cases hg
theorem afp (C:X.Ok P) (D:Den f s η H a w) (t:TypeId) (x:Operand) (ho:o.op=.load t x) (h:(zw X s.b t (Vc.ev s x)).K R):eM P f s o a w R:=by
 have hx:=D.ev x
 unfold zw at h
 split at h
 ·exact h.elim
 rename_i i hi
 have I:=C.tt _ _ hi
 have fin:∀(b off:Nat) (vals:List Value) (cs:List SV) (NK:Nat) (y:SV),a.eval x=.pointer (some ⟨b,off,none⟩)->aL η (aO s.b) H cs vals ->
   (∀j u,(vals.drop NK)[j]?=some u->w.cell? ⟨b,off+j,none⟩=some u)->rU i cs NK=some y->R y []->eM P f s o a w R:=by
  intro b off vals cs NK y hp hr hc hg hR
  obtain ⟨h1,h2⟩:=DZ I hg hr
  refine vG D (v:=_) (w':=w) ?_ (oC w none) h2 hR
  simp only [execOp,ho,hp,Sem.run_bind,Instr.loadAt,Instr.sureAddr,Sem.run_pure,Result.andThen_ok,Rh I w b off _ h1 hc]
 split at h
 ·rename_i l off ex
  rw [ex] at hx
  split at h
  ·rename_i e cs hs
   split at h
   ·rename_i v hv
    simp only [rel,bX hs,Slot.live] at hx
    obtain ⟨bl,h1,h2⟩:=hx
    obtain ⟨jB,vs,h3,h4,h5⟩:=D.sl l _ hs
    rw [h1] at h3
    simp at h3;subst h3
    refine fin bl off vs.toList cs off v h2 h5 (λj u hu=>?_) hv h
    rw [jm] at hu
    rw [cell_of_row w bl (off+j) vs e (0,0) h4]
    simpa using hu
   ·exact h.elim
  ·exact h.elim
 ·rename_i cs off ex
  rw [ex] at hx
  split at h
  ·rename_i v hv
   simp only [rel] at hx
   obtain ⟨ad,h1,vals,h2,h3⟩:=hx
   refine fin ad.block (ad.off+off) vals cs off v h1 h2 (λj u hu=>?_) hv h
   rw [jm] at hu
   have:=LO D.hw (h3 _ u hu)
   rwa [<-Nat.add_assoc] at this
  ·exact h.elim
 ·rename_i l sz j off ex
  rw [ex] at hx
  split at h
  ·rename_i T e jb c xs hs
   split at h
   ·rename_i eU
    subst eU
    obtain ⟨y,⟨hy,hg⟩,hR⟩:=h
    simp only [rel,bX hs,Slot.live] at hx
    obtain ⟨bl,n,cap,h1,h2⟩:=hx
    obtain ⟨vals,po,h4,h5,jC⟩:=D.sl l _ hs
    have h3:=po.pos (show 0 < (xs ()).length by have:=(bf.1 hy).1;omega)
    have h6:=yO h5 h4 (j ()) y hy
    have hc:=h3.cells (g:=bl) (by rw [h1];rfl)
    obtain ⟨z,hz⟩:=qD.1 hg
    simp only [hz,rJ] at hR
    refine fin bl (j ()*sz+off) _ (c y) off z h2 (dg.up (aZ.le.refl H) h6) (λk u hu=>?_) hz hR
    rw [jm,kR] at hu
    split at hu
    ·rw [jm] at hu
     have:=hc _ u hu
     rw [qI] at this
     simpa [Nat.add_assoc] using this
    ·cases hu
   ·exact h.elim
  ·exact h.elim
 ·exact h.elim
theorem QJ:∀(ys cs:List SV) (off:Nat),(putCells cs off ys).length=cs.length
 | [],cs,off=>rfl
 | y :: ys,cs,off=>by simp [putCells,QJ ys]
theorem GP {q:Nat->Live}:∀{ys:List SV} {us:List Value} {cs:List SV} {vs:List Value} {off:Nat},aL η q H ys us->aL η q H cs vs->off+ys.length<=cs.length ->
  aL η q H (putCells cs off ys) (vs.take off++us++vs.drop (off+us.length))
 | [],us,cs,vs,off,hy,hc,hl=>by
  simp only [aL] at hy;subst hy;simpa [putCells] using hc
 | y :: ys,us,cs,vs,off,hy,hc,hl=>by
  simp only [aL] at hy
  obtain ⟨u,us,rfl,h1,h2⟩:=hy
  have hlen:=ie hc
  simp at hl
  have:=GP (cs:=cs.set off y) (vs:=vs.set off u) (off:=off+1) h2 (vE hc off h1) (by simp;omega)
  have Yj:=ie h2
  rw [list_seg_step vs off u us (by omega)] at this
  simpa [putCells] using this
theorem QY {t:TypeId} {i:TI} (I:kV P t i) {v:Value} (hv:v.cells.size=i.size) (h1:∀u∈v.cells.toList,u.oneCell'=true) (w:World) (b off:Nat) (cur:Array Value) (e:TypeId)
  (hg:w.heap[b]?=some (.cells cur e (0,0))) (pV:off+i.size<=cur.size) :
  (storeVar t ⟨b,off,none⟩ v).run P w=.ok () (w.setRow b (cur.toList.take off++v.cells.toList++cur.toList.drop (off+v.cells.toList.length)).toArray):=by
 have:=run_storeCells_at P b off e v.cells.toList 0 cur w hg (by simpa [hv] using pV) h1
 simp only [rK] at this
 simp [storeVar,run_sizeOf I,hv,this]
theorem GU (w:World) (b:Nat) (cs:Array Value):w.grownBy (w.setRow b cs) (some b) :=
 ⟨rfl,rfl,rfl,by simp,λk _ hk=>setRow_other w b k _ (λe=>hk (by rw [e]))⟩
theorem ac4 (l us:List Value) (k m:Nat) (h1:k+us.length<=m) (h2:m<=l.length) :
  (l.take k++us++l.drop (k+us.length)).take m=(l.take m).take k++us++(l.take m).drop (k+us.length):=by
 rw [LG,um (by omega),Bg,Lw,iM (by simp;omega)]
 simp only [gn,lq,um (show k<=l.length by omega)]
theorem QK:∀(ys cs ds:List SV) (off:Nat),off+ys.length<=cs.length->putCells (cs++ds) off ys=putCells cs off ys++ds
 | [],cs,ds,off,_=>rfl
 | y :: ys,cs,ds,off,h=>by
  simp at h
  simp only [putCells]
  rw [List.set_append_left _ _ (by omega),QK ys _ ds _ (by simp;omega)]
theorem Ue {T:Type} {q:Nat->Live} {c:T->List SV} {sz:Nat} (jC:∀x,cj (c x)/\(c x).all SV.one=true) {us:List Value} {ys:List SV} {off:Nat} {y1 y2:T}
  (k8:(c y2).length=sz) (hle:cO (putCells (c y1) off ys) (c y2)) (hy:aL η q H ys us) (W5:off+us.length<=sz) :
  ∀{xs:List T} {vals:List Value} {j:Nat},(∀x∈xs,(c x).length=sz)->dg H (xs.flatMap c) vals->xs[j]?=some y1 ->
  (vals.take (j*sz+off)++us++vals.drop (j*sz+off+us.length)).length=vals.length /\
  dg H ((xs.set j y2).flatMap c) (vals.take (j*sz+off)++us++vals.drop (j*sz+off+us.length))
 | [],vals,j,_,_,hj=>by simp at hj
 | x :: r,vals,0,h5,h4,hj=>by
  simp at hj;subst hj
  have hx:(c x).length=sz:=h5 x (by simp)
  have Yj:=ie hy
  simp only [Nat.zero_mul,mZ,List.set_cons_zero]
  rw [o6] at h4 ⊢
  have iy:=ie h4
  simp only [gn,hx] at iy
  refine ⟨by simp;omega,?_⟩
  have h1:aL η q H (c x++r.flatMap c) vals:=dg.up (aZ.le.refl H) h4
  have h2:=GP (off:=off) hy h1 (by simp;omega)
  rw [QK _ _ _ _ (by omega)] at h2
  obtain ⟨h3,_⟩:=Ba h2
  rw [QJ,hx] at h3
  have h6:=jn _ _ (jC y2).1 (iN hle h3) (η':=λ_=>.nilIface) (q':=λ_=>.un)
  obtain ⟨_,h7⟩:=Ba h4
  have h8:=gV h6 h7
  rw [hx] at h8
  have e:(vals.take off++us++vals.drop (off+us.length))=(vals.take off++us++vals.drop (off+us.length)).take sz++vals.drop sz:=by
   conv=>lhs;rw [<-List.take_append_drop sz (vals.take off++us++vals.drop (off+us.length))]
   congr 1
   rw [List.drop_append,Hf (by simp;omega),uq,List.drop_drop]
   congr 1
   simp
   omega
  rw [e]
  exact h8
 | x :: r,vals,j+1,h5,h4,hj=>by
  have hx:(c x).length=sz:=h5 x (by simp)
  rw [o6] at h4
  obtain ⟨h6,h7⟩:=Ba h4
  rw [hx] at h6 h7
  have iy:=ie h4
  simp only [gn,hx] at iy
  obtain ⟨i1,i2⟩:=Ue jC k8 hle hy W5 (xs:=r) (λz hz=>h5 z (by simp [hz])) h7 (by simpa using hj)
  have e:vals.take ((j+1)*sz+off)++us++vals.drop ((j+1)*sz+off+us.length) =
    vals.take sz++((vals.drop sz).take (j*sz+off)++us++(vals.drop sz).drop (j*sz+off+us.length)):=by
   rw [show (j+1)*sz+off=sz+(j*sz+off) by rw [Nat.add_mul];omega,List.take_add,List.drop_drop]
   simp [Nat.add_assoc]
  rw [e]
  refine ⟨by rw [gn,i1];simp;omega,?_⟩
  rw [Hh,o6]
  exact gV h6 i2
theorem aef (C:X.Ok P) (D:Den f s η H a w) (t:TypeId) (x y:Operand) (ho:o.op=.store t x y) (hd:o.dst=none)
  (h:(xy X s.b t (Vc.ev s x) (Vc.ev s y)).K R):eM P f s o a w R:=by
 have hx:=D.ev x
 have hy:=D.ev y
 unfold xy at h
 split at h
 case h_2=>exact h.elim
 rename_i i ys hi oP
 have I:=C.tt _ _ hi
 obtain ⟨j2,oo⟩:=Mb oP hy
 split at h
 case isFalse=>exact h.elim
 rename_i hlen
 have qc:(a.eval y).cells.size=i.size:=by have:=ie j2;simp at this;omega
 split at h
 ·rename_i l off ex
  rw [ex] at hx
  split at h
  ·rename_i e cs hs
   split at h
   ·rename_i pV
    simp only [rel,bX hs,Slot.live] at hx
    obtain ⟨bl,h1,h2⟩:=hx
    obtain ⟨jB,vs,h3,h4,h5⟩:=D.sl l _ hs
    rw [h1] at h3
    simp at h3;subst h3
    have iy:=ie h5
    simp at iy
    have du:aO s.b l=.live:=by rw [bX hs];rfl
    have NL:=GP (off:=off) j2 h5 (by omega)
    have D':=D.change (η':=η) (l:=l) (x:=.fix e (putCells cs off ys)) none (b':=s.b.set l (.fix e (putCells cs off ys))) rfl (λ_ _=>rfl) (.inr ⟨du,rfl,rfl⟩) rfl
     (λ_ h=>by cases h) (some bl) (GU w bl _) (λk hk=>.inr ⟨du,by simp at hk;subst hk;rw [h1];rfl⟩)
     (λb hb=>.inr (.inr ⟨du,hb⟩)) (λT=>⟨bl,_,h1,setRow_heap w bl vs _ e _ h4,gm T (aZ.le.refl H) _ _ NL⟩)
    refine ⟨_,_,h,λK Q hk=>?_⟩
    unfold Oper.wp
    have hr:=QY I qc oo w bl off vs e h4 (by omega)
    simp only [execOp,ho,h2,Sem.run_bind,Instr.storeAt,Instr.sureAddr,Sem.run_pure,Result.andThen_ok,hr]
    refine hk η H _ undef ?_
    rw [hd]
    exact D'
   ·exact h.elim
  ·exact h.elim
 ·rename_i l sz j off ex
  rw [ex] at hx
  split at h
  ·rename_i T e jb c xs hs
   split at h
   ·rename_i hc
    obtain ⟨eU,W5⟩:=hc
    subst eU
    obtain ⟨⟨y1,y2⟩,⟨hj,k8,hle⟩,hR⟩:=h
    simp only at hj k8 hle hR
    simp only [rel,bX hs,Slot.live] at hx
    obtain ⟨bl,n,cap,h1,h2⟩:=hx
    obtain ⟨vals,po,h4,h5,jC⟩:=D.sl l _ hs
    have h3:=po.pos (show 0 < (xs ()).length by have:=(bf.1 hj).1;omega)
    have du:aO s.b l=.live:=by rw [bX hs];rfl
    rcases h3.2 with ⟨hn,_⟩|⟨g,qP,cur,hg,_,kH,vQ,l6,fQ,rV⟩
    ·rw [h1] at hn;cases hn
    have hblk:g=bl:=by rw [h1] at hg;simp at hg;exact hg.1.symm
    subst hblk
    have ei:j () < (xs ()).length:=(bf.1 hj).1
    have hmul:(j ()+1)*sz<=(xs ()).length*sz:=uf _ ei
    rw [Nat.add_mul,Nat.one_mul] at hmul
    have iy:=h3.1
    have tq:(xs ()).length*sz<=qP*sz:=uf _ vQ
    have hr:=QY I qc oo w g (j ()*sz+off) cur e kH (by rw [fQ];omega)
    have OQ:(a.eval y).cells.toList.length=i.size:=by simpa using qc
    obtain ⟨Ng,agJ⟩:=Ue (us:=(a.eval y).cells.toList) jC k8 hle j2 (by omega) h5 h4 hj
    have W6:w.ownsRow 0 e sz (η l) (xs ()).length vals:=h3
    have D':=D.change (w':=w.setRow g (cur.toList.take (j ()*sz+off)++(a.eval y).cells.toList++cur.toList.drop (j ()*sz+off+(a.eval y).cells.toList.length)).toArray) (η':=η) (l:=l) (x:=.dyn e sz c λ_=>(xs ()).set (j ()) y2) none (b':=s.b.set l (.dyn e sz c λ_=>(xs ()).set (j ()) y2)) rfl (λ_ _=>rfl)
     (.inr ⟨du,rfl,rfl⟩) rfl (λ_ h=>by cases h) (some g) (GU w g _) (λk hk=>.inr ⟨du,by simp at hk;subst hk;rw [hg];simp only [bY];rw [if_neg (by omega)]⟩)
     (λb hb=>.inr (.inr ⟨du,hb⟩)) (λT=>⟨_,.of ⟨by simpa [iy] using Ng,.inr ⟨g,qP,_,by simpa using hg,cI _,setRow_heap w g cur _ e _ kH,by simpa using vQ,l6,?_,?_⟩⟩,agJ,?_,jC⟩)
    ·refine ⟨_,_,hR,λK Q hk=>?_⟩
     unfold Oper.wp
     simp only [execOp,ho,h2,Sem.run_bind,Instr.storeAt,Instr.sureAddr,Sem.run_pure,Result.andThen_ok,hr]
     refine hk η H _ undef ?_
     rw [hd]
     exact D'
    ·simp only [Bb,gn,lq,Bc,uk,OQ]
     omega
    ·simp only [y8]
     rw [ac4 _ _ _ _ (by omega) (by simp;omega),rV]
    ·intro z hz
     rcases Se hz with hz|rfl
     ·exact h5 z hz
     ·exact k8
   ·exact h.elim
  ·exact h.elim
 ·exact h.elim
end
section
variable {P:Program} {X:Ctx} {f:Fr} {s:St} {η:Nat->Value} {H:aZ} {a:Act} {w:World} {o:Oper} {R:SV->List (Nat × Slot)->Prop}
theorem DO {q:Nat->Live} {x:SV} {v:Value} (hx:rel η q H x v) (k:Nat) :
  (∀l off,x=.ptr l off->∃ad,v=.pointer (some ad)/\rel η q H (.ptr l (off+k)) (.pointer (some (ad.add k)))) /\
  (∀cs off,x=.db cs off->∃ad,v=.pointer (some ad)/\rel η q H (.db cs (off+k)) (.pointer (some (ad.add k)))) /\
  (∀l sz i off,x=.fB l sz i off->∃ad,v=.pointer (some ad)/\rel η q H (.fB l sz i (off+k)) (.pointer (some (ad.add k)))):=by
 refine ⟨?_,?_,?_⟩
 ·rintro l off rfl
  simp only [rel] at hx ⊢
  cases hq:q l<;>simp only [hq] at hx ⊢
  ·obtain ⟨ad,rfl⟩:=hx;exact ⟨ad,rfl,_,rfl⟩
  ·obtain ⟨bl,h1,rfl⟩:=hx;exact ⟨_,rfl,bl,h1,by rw [qI]⟩
 ·rintro cs off rfl
  simp only [rel] at hx ⊢
  obtain ⟨ad,rfl,h2⟩:=hx
  exact ⟨_,rfl,ad,by rw [qI,Nat.add_assoc],h2⟩
 ·rintro l sz i off rfl
  simp only [rel] at hx ⊢
  cases hq:q l<;>simp only [hq] at hx ⊢
  ·obtain ⟨ad,rfl⟩:=hx;exact ⟨ad,rfl,_,rfl⟩
  ·obtain ⟨bl,n,c,h1,rfl⟩:=hx;exact ⟨_,rfl,bl,n,c,h1,by rw [qI,Nat.add_assoc]⟩
theorem abb {t:TypeId} {i:TI} (I:kV P t i) {fs:List (TypeId × Nat × Nat)} (hd:i.d=.st fs) {j:Nat} {ft off sz:Nat} (hj:fs[j]?=some (ft,off,sz)) (ad:Addr) (w:World) :
  (Instr.fieldAt t (.pointer (some ad)) j).run P w=.ok (.pointer (some (ad.add off))) w:=by
 have:=I.desc
 rw [hd] at this
 obtain ⟨gs,h1,h2,h3⟩:=this
 have aP:j < gs.size:=by rw [h2];exact (bf.1 hj).1
 obtain ⟨inf,h4,h5,h6⟩:=h3 j gs[j] (by simp [aP])
 rw [hj] at h6
 simp at h6
 simp [Instr.fieldAt,run_underlying h1,aP,Instr.sureAddr,fieldPlace,sizeOf,typeInfo,h4,h5,<-h6.2.1]
theorem abc (C:X.Ok P) (D:Den f s η H a w) (t:TypeId) (x:Operand) (j:Nat) (ho:o.op=.fieldAddr t x j) (h:(Du X t (Vc.ev s x) j).K R):eM P f s o a w R:=by
 have hx:=D.ev x
 unfold Du at h
 split at h<;>first|exact h.elim|skip
 rename_i i hi
 have I:=C.tt _ _ hi
 split at h<;>first|exact h.elim|skip
 rename_i fs hd
 split at h<;>first|exact h.elim|skip
 rename_i ft off sz hj
 have fin:∀(y:SV),(∃ad,a.eval x=.pointer (some ad)/\rel η (aO s.b) H y (.pointer (some (ad.add off))))->R y []->eM P f s o a w R:=by
  rintro y ⟨ad,hp,hr⟩ hR
  refine dG D (λw=>?_) hr hR
  simp only [execOp,ho,hp,Sem.run_bind,abb I hd hj,Result.andThen_ok,Sem.run_pure]
 obtain ⟨h1,h2,h3⟩:=DO hx off
 split at h<;>first|exact h.elim|skip
 ·rename_i l k ex;exact fin _ (h1 l k ex) h
 ·rename_i cs k ex;exact fin _ (h2 cs k ex) h
 ·rename_i l sz j k ex;exact fin _ (h3 l sz j k ex) h
theorem abd (C:X.Ok P) (D:Den f s η H a w) (t:TypeId) (x ix:Operand) (ho:o.op=.indexAddr t x ix) (h:(wW X s.b t (Vc.ev s x) (Vc.ev s ix)).K R):eM P f s o a w R:=by
 have hx:=D.ev x
 have dv:=D.ev ix
 unfold wW at h
 split at h<;>first|exact h.elim|skip
 rename_i i hi
 have I:=C.tt _ _ hi
 have bT:=I.desc
 split at h<;>first|exact h.elim|skip
 ·rename_i n e hd
  rw [hd] at bT
  split at h<;>first|exact h.elim|skip
  rename_i j k m hj em
  have J:=C.tt _ _ hj
  split at h<;>first|exact h.elim|skip
  rename_i hm
  rw [em] at dv
  simp only [rel] at dv
  have fin:∀(y:SV),(∃ad,a.eval x=.pointer (some ad)/\rel η (aO s.b) H y (.pointer (some (ad.add (m.toNat*j.size)))))->R y []->eM P f s o a w R:=by
   rintro y ⟨ad,hp,hr⟩ hR
   refine dG D (λw=>?_) hr hR
   have uT:0<=m/\m < (n:Int):=by omega
   simp [execOp,ho,hp,dv,Instr.indexAt,asIntOf,run_underlying bT,Instr.sureAddr,uT,run_sizeOf J]
  obtain ⟨h1,h2,h3⟩:=DO hx (m.toNat*j.size)
  split at h<;>first|exact h.elim|skip
  ·rename_i l k ex;exact fin _ (h1 l k ex) h
  ·rename_i cs k ex;exact fin _ (h2 cs k ex) h
  ·rename_i l sz j k ex;exact fin _ (h3 l sz j k ex) h
  ·rename_i j k m hj em
   have J:=C.tt _ _ hj
   rw [em] at dv
   simp only [rel] at dv
   have fin:∀(g:Nat) (y:SV),(m ()=(g:Int)/\g < n)->(∃ad,a.eval x=.pointer (some ad)/\rel η (aO s.b) H y (.pointer (some (ad.add (g*j.size)))))->R y []->eM P f s o a w R:=by
    rintro g y ⟨hg,aP⟩ ⟨ad,hp,hr⟩ hR
    refine dG D (λw=>?_) hr hR
    rw [hg] at dv
    simp [execOp,ho,hp,dv,Instr.indexAt,asIntOf,run_underlying bT,Instr.sureAddr,aP,run_sizeOf J]
   split at h<;>first|exact h.elim|skip
   ·rename_i l k ex;obtain ⟨g,hg,h⟩:=h;exact fin g _ hg.out ((DO hx _).1 l k ex) h
   ·rename_i cs k ex;obtain ⟨g,hg,h⟩:=h;exact fin g _ hg.out ((DO hx _).2.1 cs k ex) h
   ·rename_i l sz p k ex;obtain ⟨g,hg,h⟩:=h;exact fin g _ hg.out ((DO hx _).2.2 l sz p k ex) h
 ·rename_i e hd
  rw [hd] at bT
  split at h<;>first|exact h.elim|skip
  rename_i j k m hj hm
  have J:=C.tt _ _ hj
  have OR:=lz hm dv
  have run:∀(ad:Addr) (n c:Nat),a.eval x=.slice (some ad) n c->0<=m ()->(m ()).toNat < n->∀w,
    (execOp a.eval o).run P w=.ok (.value (.pointer (some (ad.add ((m ()).toNat*j.size))))) w:=by
   intro ad n c hp h0 h1 w
   have uT:0<=m ()/\m () < (n:Int):=by omega
   simp [execOp,ho,hp,OR,Instr.indexAt,asIntOf,run_underlying bT,uT,run_sizeOf J]
  split at h<;>first|exact h.elim|skip
  ·rename_i T sz c xs ex
   split at h<;>first|exact h.elim|skip
   rename_i eU
   subst eU
   obtain ⟨y,⟨h0,hy⟩,hR⟩:=h
   rw [ex] at hx
   simp only [rel] at hx
   obtain ⟨⟨ad,cap,h1,h2,h3⟩,_⟩:=hx
   have aP:=(bf.1 hy).1
   rcases h3 with h3|⟨ad,rfl,fx,h4⟩
   ·rw [h3] at aP;simp at aP
   obtain ⟨vals,h5,h6,h7⟩:=h4 _ y hy
   refine dG D (run ad _ _ h1 h0 aP) ?_ hR
   simp only [rel]
   exact ⟨ad.add ((m ()).toNat*j.size),by rw [nK _ fx];simp,vals,h6,by rw [nK _ fx];exact h7⟩
  ·rename_i l ex
   split at h<;>first|exact h.elim|skip
   rename_i T e' sz c xs hs
   split at h<;>first|exact h.elim|skip
   rename_i eU
   subst eU
   obtain ⟨⟨h0,h1⟩,hR⟩:=h
   rw [ex] at hx
   simp only [rel,bX hs,Slot.live] at hx
   obtain ⟨vals,po,h4,h5,jC⟩:=D.sl l _ hs
   have h3:=po.pos (show 0 < (xs ()).length by omega)
   rcases h3.2 with ⟨hn,hz⟩|⟨g,qP,cur,hg,_,kH,vQ,l6,fQ,rV⟩
   ·omega
   refine dG D (run ⟨g,0,none⟩ _ _ (hx.1.trans hg) h0 h1) ?_ hR
   simp only [rel,bX hs,Slot.live]
   exact ⟨g,_,_,hg,by rw [qI];simp⟩
  ·rename_i l sz g h' ex
   split at h<;>first|exact h.elim|skip
   rename_i T e' jb c xs hs
   split at h<;>first|exact h.elim|skip
   rename_i eU
   subst eU
   obtain ⟨⟨h0,h1⟩,hR⟩:=h
   rw [ex] at hx
   simp only [rel,bX hs,Slot.live] at hx
   obtain ⟨ad,nn,cc,p1,p2,p3,ky,c',p4,p5,p6⟩:=hx
   obtain ⟨bl,rfl,rfl⟩:=p6.1 (by omega)
   refine dG D (run ⟨bl,g ()*j.size,none⟩ _ _ p4 h0 h1) ?_ hR
   simp only [rel,bX hs,Slot.live]
   exact ⟨bl,_,_,p1,by rw [qI,Nat.add_mul];simp⟩
  ·rename_i cs n ex
   rw [ex] at hx
   simp only [rel] at hx
   obtain ⟨ad,h3,h4⟩:=hx
   have fin:∀g:Nat,m ()=(g:Int)->g < n->R (.db ((cs.drop (g*j.size)).take j.size) 0) []->eM P f s o a w R:=by
    intro g wq h1 hR
    rcases h4 with h4|⟨ad,rfl,fx,vals,h5,h6⟩
    ·omega
    have iy:=ie h5
    refine dG D (run ad n n h3 (by omega) (by omega)) ?_ hR
    simp only [rel,wq,iS]
    refine ⟨ad.add (g*j.size),by rw [nK _ fx];simp,_,Bj (Bi h5 _) _,?_⟩
    rw [nK _ fx]
    intro k u hu
    rw [kR] at hu
    split at hu
    ·rw [jm] at hu
     have:=h6 _ u hu
     rwa [<-Nat.add_assoc] at this
    ·cases hu
   split at h<;>first|exact h.elim|skip
   ·rename_i k' m' em
    split at h<;>first|exact h.elim|skip
    rename_i uT
    obtain ⟨h0,h1,h2⟩:=uT
    have wq:m ()=(m'.toNat:Int):=by
     rw [em] at hm
     simp [SV.ja] at hm
     rw [<-hm.2]
     show m'=_
     omega
    exact fin _ wq h1 h
   ·rename_i k' m' em
    split at h<;>first|exact h.elim|skip
    rename_i E hE
    have EE:=C.el _ _ hE
    obtain ⟨⟨y,zs⟩,⟨g1,g2,g3,g4⟩,hR⟩:=h
    simp only at g1 g2 g3 g4 hR
    have wq:m ()=m' ():=by
     rw [em] at hm
     simp [SV.ja] at hm
     rw [<-hm.2]
    have aP:=(bf.1 g4).1
    rcases h4 with h4|⟨ad,rfl,fx,vals,h5,h6⟩
    ·omega
    have h7:=yO (λx _=>EE.len j hj x) (iN g1 h5) _ y g4
    refine dG D (run ad n n h3 (by omega) (by omega)) ?_ hR
    simp only [rel,wq]
    refine ⟨ad.add ((m' ()).toNat*j.size),by rw [nK _ fx];simp,_,h7,?_⟩
    rw [nK _ fx]
    intro k u hu
    rw [kR] at hu
    split at hu
    ·rw [jm] at hu
     have:=h6 _ u hu
     rwa [<-Nat.add_assoc] at this
    ·cases hu
theorem aeg (C:X.Ok P) (D:Den f s η H a w) (t:TypeId) (x ix:Operand) (ho:o.op=.index t x ix) (h:(HU X t (Vc.ev s x) (Vc.ev s ix)).K R):eM P f s o a w R:=by
 have hx:=D.ev x
 have dv:=D.ev ix
 unfold HU at h
 split at h<;>first|exact h.elim|skip
 rename_i i hi
 have I:=C.tt _ _ hi
 have bT:=I.desc
 split at h<;>first|exact h.elim|skip
 ·rename_i y hd ex
  rw [hd] at bT
  split at h<;>first|exact h.elim|skip
  rename_i k m hm
  obtain ⟨⟨h0,h1⟩,hR⟩:=h
  have OR:=lz hm dv
  rw [ex] at hx
  simp only [rel] at hx
  refine dG D (v:=.int .u8 (((y ()).data.toList.getD (m ()).toNat 0).toNat)) (λw=>?_) (by simp only [rel]) hR
  have h2:(y ())[(m ()).toNat]?=some ((y ())[(m ()).toNat]):=by
   exact getElem?_pos (y ()) _ h1
  have h3:(y ()).data.toList.getD (m ()).toNat 0=(y ())[(m ()).toNat]:=by
   rw [List.getD_eq_getElem?_getD,eG (by simpa using h1)]
   rfl
  simp [execOp,ho,hx,OR,Instr.index,asIntOf,run_underlying bT,h0,h2]
  rw [<-h3]
  simp
 ·rename_i n e cs hd ex
  rw [hd] at bT
  split at h<;>first|exact h.elim|skip
  rename_i j k m hj em
  have J:=C.tt _ _ hj
  split at h<;>first|exact h.elim|skip
  rename_i hm
  split at h<;>first|exact h.elim|skip
  rename_i v hv
  rw [em] at dv
  rw [ex] at hx
  simp only [rel] at dv hx
  obtain ⟨vs,h1,h2⟩:=hx
  obtain ⟨h3,h4⟩:=DZ J hv h2
  refine dG D (λw=>?_) h4 h
  have uT:0<=m/\m < (n:Int):=by omega
  simp [execOp,ho,h1,dv,Instr.index,asIntOf,run_underlying bT,uT,run_sizeOf J,part,Hs J]
  cases hq:j.agg
  ·simp only [mV,if_false]
   have hp:=J.pos
   simp at h3
   have aP:m.toNat*j.size < vs.length:=by omega
   simp [jm,aP]
  ·simp [Bg]
  ·rename_i j k m hj em
   have J:=C.tt _ _ hj
   split at h<;>first|exact h.elim|skip
   obtain ⟨g,⟨hg,Fx,agK⟩,h⟩:=h
   rw [em] at dv
   rw [ex] at hx
   simp only [rel] at dv hx
   rw [hg] at dv
   obtain ⟨vs,h1,h2⟩:=hx
   obtain ⟨v,hv⟩:=qD.1 agK
   obtain ⟨h3,h4⟩:=DZ J hv h2
   simp only [hv] at h
   refine dG D (λw=>?_) h4 h
   simp [execOp,ho,h1,dv,Instr.index,asIntOf,run_underlying bT,Fx,run_sizeOf J,part,Hs J]
   cases hq:j.agg
   ·simp only [mV,if_false]
    have hp:=J.pos
    simp at h3
    have aP:g*j.size < vs.length:=by omega
    simp [jm,aP]
   ·simp [Bg]
theorem aeh (C:X.Ok P) (D:Den f s η H a w) (t:TypeId) (x:Operand) (j:Nat) (ho:o.op=.field t x j) (h:(HW X t (Vc.ev s x) j).K R):eM P f s o a w R:=by
 have hx:=D.ev x
 unfold HW at h
 split at h<;>first|exact h.elim|skip
 rename_i i cs hi ex
 have I:=C.tt _ _ hi
 have bT:=I.desc
 split at h<;>first|exact h.elim|skip
 rename_i fs hd
 rw [hd] at bT
 obtain ⟨gs,h1,h2,h3⟩:=bT
 split at h<;>first|exact h.elim|skip
 rename_i ft off sz hj
 split at h<;>first|exact h.elim|skip
 rename_i k hk
 have Kk:=C.tt _ _ hk
 split at h<;>first|exact h.elim|skip
 rename_i v hv
 have aP:j < gs.size:=by rw [h2];exact (bf.1 hj).1
 obtain ⟨inf,h4,h5,h6⟩:=h3 j gs[j] (by simp [aP])
 rw [hj] at h6
 simp at h6
 rw [ex] at hx
 simp only [rel] at hx
 obtain ⟨vs,h7,h8⟩:=hx
 obtain ⟨h9,h10⟩:=DZ Kk hv h8
 refine dG D (λw=>?_) h10 h
 simp [execOp,ho,h7,Instr.field,run_underlying h1,aP,asAgg,part,<-h6.1,<-h6.2.1,Hs Kk,run_sizeOf Kk]
 cases hq:k.agg
 ·simp only [mV,if_false]
  have hp:=Kk.pos
  simp at h9
  have aP:off < vs.length:=by omega
  simp [jm,aP]
 ·simp [Bg]
end
def lA (η:Nat->Value) (l:Nat) (v:Value):Nat->Value:=λk=>if k=l then v else η k
theorem fe (η:Nat->Value) (l:Nat) (v:Value):lA η l v l=v:=by simp [lA]
theorem jv (η:Nat->Value) (l:Nat) (v:Value) (k:Nat) (h:k≠l):lA η l v k=η k:=by simp [lA,h]
section
variable {P:Program} {X:Ctx} {f:Fr} {s:St} {η:Nat->Value} {H:aZ} {a:Act} {w:World} {o:Oper} {R:SV->List (Nat × Slot)->Prop}
theorem KZ (t:TypeId) (v:Value) (w:World):(newVar t v).run P w=.ok ⟨w.heap.size,0,none⟩ (w.alloc (.cells v.cells t)):=by
 simp [newVar,newRow]
theorem Ri (D:Den f s η H a w) {l:Nat} (hl:s.b[l]?=some .un) {e:TypeId} {cs:List SV} {v:Value} (hc:aL η (aO s.b) H cs v.cells.toList)
  (hr:(execOp a.eval o).run P w=.ok (.value (.pointer (some ⟨w.heap.size,0,none⟩))) (w.alloc (.cells v.cells e)))
  (h:R (.ptr l 0) [(l,.fix e cs)]):eM P f s o a w R:=by
 refine ⟨_,_,h,λK Q hk=>?_⟩
 unfold Oper.wp
 rw [hr]
 have aP:=(bf.1 hl).1
 have D':=D.change (w':=w.alloc (.cells v.cells e)) (η':=lA η l (.pointer (some ⟨w.heap.size,0,none⟩))) (l:=l) (x:=.fix e cs) none (b':=s.b.set l (.fix e cs)) rfl
  (λk hk=>jv _ _ _ k hk) (.inl hl) rfl (λ_ h=>by cases h) none (World.grownBy_alloc w _ none) (λk hk=>by cases hk)
  (λb hb=>.inl (by rw [fe] at hb;simp [bY] at hb;omega))
  (λT=>⟨w.heap.size,v.cells,fe _ _ _,heap_alloc_new w _,gm T (aZ.le.refl H) _ _ hc⟩)
 refine hk _ H _ _ (Den.put D' o.dst ?_)
 simp only [rel,qK l aP,if_true,Slot.live]
 exact ⟨_,fe _ _ _,rfl⟩
theorem aei (C:X.Ok P) (D:Den f s η H a w) {l:Nat} (hl:s.b[l]?=some .un) (e:TypeId) (ho:o.op=.alloc e) {i:TI} (hi:X.tt e=some i)
  (h:R (.ptr l 0) [(l,.fix e (i.zero.cells.toList.map jz))]):eM P f s o a w R:=by
 have I:=C.tt _ _ hi
 obtain ⟨inf,h1,h2,h3,h4⟩:=I.info
 refine Ri D hl (v:=i.zero) (wZ η _ H _) ?_ h
 simp [execOp,ho,Instr.alloc,zeroValue,typeInfo,h1,h4,KZ]
theorem agL (C:X.Ok P) (D:Den f s η H a w) {l:Nat} (hl:s.b[l]?=some .un) (e:TypeId) (x:Operand) (ho:o.op=.box e x) {cs:List SV} (hc:(Vc.ev s x).cells?=some cs)
  (h:R (.ptr l 0) [(l,.fix e cs)]):eM P f s o a w R:=by
 refine Ri D hl (v:=a.eval x) (Mb hc (D.ev x)).1 ?_ h
 simp [execOp,ho,Instr.box,KZ]
theorem Sn (f:Nat->Nat):∀(us:List Value) (k:Nat) (cs:List Value) (off:Nat),(us.zipIdx k).foldl (λ(cs:Array Value) (p:Value × Nat)=>cs.setIfInBounds (off+p.2) p.1) cs.toArray =
  (cs.take (off+k)++us++cs.drop (off+k+us.length)).toArray\/cs.length < off+k+us.length
 | [],k,cs,off=>by left;simp
 | u :: us,k,cs,off=>by
  by_cases hl:cs.length < off+k+(us.length+1)
  ·right;simpa using hl
  left
  rcases Sn f us (k+1) (cs.set (off+k) u) off with h|h
  ·simp only [List.zipIdx_cons,lu,List.setIfInBounds_toArray]
   rw [h]
   congr 1
   have:=list_seg_step cs (off+k) u us (by omega)
   simpa [Nat.add_assoc,Nat.add_comm,Nat.add_left_comm] using this
  ·simp at h;omega
theorem HM {q:Nat->Live} (place:Nat->Option (Nat × Nat)):∀(ps:List (Nat × SV)) (vs:List (Nat × Value)) (cs:List SV) (us:List Value) (wh:List SV),
  vs.map (·.1)=ps.map (·.1)->aL η q H (ps.map (·.2)) (vs.map (·.2))->aL η q H cs us->zx place ps cs=some wh ->
  ∃JG:List Value,Instr.fill place us.toArray vs=some JG.toArray/\aL η q H wh JG
 | [],vs,cs,us,wh,h1,h2,h3,h4=>by
  simp at h1;subst h1
  simp [zx] at h4;subst h4
  exact ⟨us,by simp [Instr.fill],h3⟩
 | (j,x) :: ps,[],cs,us,wh,h1,h2,h3,h4=>by simp at h1
 | (j,x) :: ps,(j',v) :: vs,cs,us,wh,h1,h2,h3,h4=>by
  simp at h1
  obtain ⟨rfl,h1⟩:=h1
  simp only [ig,aL] at h2
  obtain ⟨v',lI,e,h5,h6⟩:=h2
  simp at e
  obtain ⟨rfl,rfl⟩:=e
  simp only [zx] at h4
  split at h4
  ·rename_i off size ys hp oP
   split at h4
   ·rename_i hc
    obtain ⟨eU,pV⟩:=hc
    obtain ⟨a1,a2⟩:=Mb oP h5
    have jc:=ie a1
    have JH:=ie h3
    have NL:=GP (off:=off) a1 h3 pV
    obtain ⟨JG,b1,b2⟩:=HM place ps vs _ _ wh h1 h6 NL h4
    refine ⟨JG,?_,b2⟩
    rw [Instr.fill,hp]
    simp only
    have fQ:v.cells.size=size:=by simp at jc;omega
    rw [if_neg (by simp [fQ];simp at jc;omega)]
    rw [<-b1]
    congr 1
    rw [<-Array.foldl_toList]
    rcases Sn id v.cells.toList 0 us off with h|h
    ·simpa using h
    ·simp at h;simp at jc;omega
   ·cases h4
  ·cases h4
theorem S9 {α β:Type} (g:α->Sem β) (r:α->β):∀(l:List α),(∀x∈l,∀w,(g x).run P w=.ok (r x) w)->∀w,(l.mapM g).run P w=.ok (l.map r) w
 | [],_,w=>by simp
 | x :: l,h,w=>by
  have h1:=h x (by simp) w
  have h2:=S9 g r l (λy hy=>h y (by simp [hy])) w
  rw [DI]
  simp only [Sem.run_bind,h1,Result.andThen_ok,h2,Sem.run_pure,ig]
theorem ab5 {α β:Type} (g:α->Sem β) (r:α->β) (l:Array α) (h:∀x∈l.toList,∀w,(g x).run P w=.ok (r x) w) (w:World):(l.mapM g).run P w=.ok (l.map r) w:=by
 rw [Sg]
 rw [map_eq_pure_bind]
 have h2:=S9 (P:=P) g r l.toList h w
 rw [Sem.run_bind,h2]
 simp only [Result.andThen_ok,Sem.run_pure]
 rw [<-Array.toList_map,DB]
theorem LP (s:St) (a:Act) (ps:List (Nat × Operand)) (D:Den f s η H a w) :
  aL η (aO s.b) H ((ps.map λp=>(p.1,Vc.ev s p.2)).map (·.2)) ((ps.map λp=>(p.1,a.eval p.2)).map (·.2)):=by
 have h:=D.Ag (ps.map λp=>p.2)
 rw [Hp,Hp] at h ⊢
 exact h
theorem aej (C:X.Ok P) (D:Den f s η H a w) (t:TypeId) (parts:Array (Nat × Operand)) (ho:o.op=.build t parts)
  (h:(HV X t (parts.toList.map λp=>(p.1,Vc.ev s p.2))).K R):eM P f s o a w R:=by
 unfold HV at h
 split at h<;>first|exact h.elim|skip
 rename_i i hi
 have I:=C.tt _ _ hi
 obtain ⟨inf,n1,n2,n3,n4⟩:=I.info
 have bT:=I.desc
 have HY:(parts.map λ(x:Nat × Operand)=>(x.1,a.eval x.2)).toList=parts.toList.map λp=>(p.1,a.eval p.2):=by simp
 have hz:aL η (aO s.b) H (i.zero.cells.toList.map jz) i.zero.cells.toList:=wZ η _ H _
 split at h<;>first|exact h.elim|skip
 ·rename_i fs hd
  rw [hd] at bT
  obtain ⟨gs,h1,h2,h3⟩:=bT
  split at h<;>first|exact h.elim|skip
  rename_i cs fQ
  obtain ⟨us,g1,g2⟩:=HM _ _ (parts.toList.map λp=>(p.1,a.eval p.2)) _ _ _ (by simp [Hi]) (LP s a _ D) hz fQ
  have hm:=ab5 (P:=P) (λf:Field=>do pure (f.offset,<-sizeOf f.type)) (λf=>(f.offset,P.cellsOf f.type)) gs (λx hx w=>by
   obtain ⟨j,hj⟩:=xc.1 hx
   obtain ⟨inf,b1,b2,b3⟩:=h3 j x (by simpa using hj)
   simp [sizeOf,typeInfo,b1,Program.cellsOf])
  have hpl:(λj:Nat=>(gs.map λf=>(f.offset,P.cellsOf f.type))[j]?)=λj:Nat=>(fs[j]?).map (λp=>p.2):=by
   funext j
   cases hj:gs[j]? with
   | none =>
    have:fs[j]?=none:=by
     rw [List.getElem?_eq_none_iff,<-h2]
     simpa using hj
    simp [hj,this]
   | some f =>
    obtain ⟨inf,b1,b2,b3⟩:=h3 j f hj
    simp [hj,b3,Program.cellsOf,b1]
  refine dG D (v:=.agg us.toArray) (λw=>?_) (by simp only [rel];exact ⟨us,rfl,g2⟩) h
  simp only [execOp,ho,Sem.run_bind,Instr.build,zeroValue,typeInfo,run_program,n1,Result.andThen_ok,n4,Sem.run_pure,run_underlying h1,hm w]
  rw [hpl]
  simp only [DB] at g1
  rw [show (parts.map λ(x:Nat × Operand)=>(x.1,a.eval x.2)).toList=parts.toList.map λp=>(p.1,a.eval p.2) from HY,g1]
  rfl
 ·rename_i n e hd
  rw [hd] at bT
  split at h<;>first|exact h.elim|skip
  rename_i k hk
  have Kk:=C.tt _ _ hk
  split at h<;>first|exact h.elim|skip
  rename_i cs fQ
  obtain ⟨us,g1,g2⟩:=HM _ _ (parts.toList.map λp=>(p.1,a.eval p.2)) _ _ _ (by simp [Hi]) (LP s a _ D) hz fQ
  refine dG D (v:=.agg us.toArray) (λw=>?_) (by simp only [rel];exact ⟨us,rfl,g2⟩) h
  simp only [execOp,ho,Sem.run_bind,Instr.build,zeroValue,typeInfo,run_program,n1,Result.andThen_ok,n4,Sem.run_pure,run_underlying bT,run_sizeOf Kk]
  simp only [DB] at g1
  rw [show (parts.map λ(x:Nat × Operand)=>(x.1,a.eval x.2)).toList=parts.toList.map λp=>(p.1,a.eval p.2) from HY,g1]
  rfl
end
section
variable {P:Program} {X:Ctx} {f:Fr} {s:St} {η:Nat->Value} {H:aZ} {a:Act} {w:World} {o:Oper} {R:SV->List (Nat × Slot)->Prop}
theorem Den.share (D:Den f s η H a w) {w':World} {H':aZ} (g:w.grownBy w' none) (hle:H.le H') (dw:H'.gR w') (cb:∀b,H' b≠none->H b≠none\/w.heap.size<=b):Den f s η H' a w':=by
 have D1:=D.grown g
 exact {
  t:=gm (gQ.refl _ _) hle _ _ D1.t
  sv:=gm (gQ.refl _ _) hle _ _ D1.sv
  d:=D1.d
  h0:=D1.h0.trans hle
  hw:=dw
  fw:=D1.fw
  hf:=λb hb=>by
   rcases cb b hb with h|h
   ·exact D1.hf b h
   ·right
    cases hF:f.F b with
    | none=>rfl
    | some x=>have:=(fi.1 (D.fw b x hF)).1;omega
  sl:=λl x hx=>(D1.sl l x hx).kept (gQ.refl _ _) hle rfl λb hb=>rfl
  dj:=D1.dj
  dh:=λl b hl hb=>by
   refine ⟨?_,(D1.dh l b hl hb).2⟩
   cases hH:H' b with
   | none=>rfl
   | some x =>
    rcases cb b (by rw [hH];simp) with h|h
    ·exact absurd (D1.dh l b hl hb).1 h
    ·have:=D.zd hl hb;omega
  os:=D1.os
  tape:=D1.tape
  out:=D1.out }
theorem Rj {α:Type 1} (xs:List α):∀n,(r6 xs n).length=n*xs.length
 | 0=>by simp [r6]
 | n+1=>by simp [r6,Rj xs n,Nat.add_mul];omega
theorem Ta {α:Type 1} (xs:List α):∀n j,j < n*xs.length->(r6 xs n)[j]?=xs[j % xs.length]?
 | 0,j,h=>by simp at h
 | n+1,j,h=>by
  simp only [r6]
  by_cases hj:j < xs.length
  ·rw [jk hj,Lx hj]
  ·rw [qB (by omega),Ta xs n (j - xs.length) (by rw [Nat.add_mul] at h;omega)]
   rw [Nat.mod_eq_sub_mod (a:=j) (by omega)]
theorem Sq {q:Nat->Live} {xs:List SV} {zs:List Value} (h:aL η q H xs zs) {n:Nat} {vs:List Value} (hl:vs.length=n*zs.length) (hv:∀j,j < n*zs.length->vs[j]?=zs[j % zs.length]?) :
  aL η q H (r6 xs n) vs:=by
 have he:=ie h
 refine GX (by rw [Rj,hl,he]) λj x u hx hu=>?_
 have hj:j < n*zs.length:=by rw [<-hl];exact (bf.1 hu).1
 rw [Ta xs n j (by rw [<-he];exact hj)] at hx
 rw [hv j hj,he] at hu
 obtain ⟨u',h1,h2⟩:=rL h _ x hx
 rw [h1] at hu
 simp at hu;subst hu;exact h2
theorem Tb (z:Array Value) (n j:Nat) (hz:0 < z.size) (hj:j < n):(madeCells z n).toList[j]?=z.toList[j % z.size]?:=by
 have:j % z.size < z.size:=Nat.mod_lt _ hz
 simp [madeCells,hj,this]
theorem flatMap_replicate {T:Type} (c:T->List SV) (z:T):∀n,(List.replicate n z).flatMap c=r6 (c z) n
 | 0=>by simp [r6]
 | n+1=>by simp [DD,r6,flatMap_replicate c z n]
theorem vx (D:Den f s η H a w) {l:Nat} (hl:s.b[l]?=some .un) {T:Type} {e:TypeId} {sz:Nat} {c:T->List SV} {xs:Unit->List T} {v:Value} {w':World}
  (hr:(execOp a.eval o).run P w=.ok (.value v) w') (g:w.grownBy w' none) (hv:∀b,bY v=some b->w.heap.size<=b) (hs:Value.isSlice v)
  (iw:iU (λ_=>v) (λ_=>.un) H w' 0 (.dyn e sz c xs)) (h:R (.own l) [(l,.dyn e sz c xs)]):eM P f s o a w R:=by
 refine ⟨_,_,h,λK Q hk=>?_⟩
 unfold Oper.wp
 rw [hr]
 have aP:=(bf.1 hl).1
 have D':=D.change (w':=w') (η':=lA η l v) (l:=l) (x:=.dyn e sz c xs) none (b':=s.b.set l (.dyn e sz c xs)) rfl
  (λk hk=>jv _ _ _ k hk) (.inl hl) rfl (λ_ h=>by cases h) none g (λk hk=>by cases hk)
  (λb hb=>.inl (hv b (by rw [fe] at hb;exact hb)))
  (λT=>by obtain ⟨vals,h1,h2⟩:=iw;exact ⟨vals,by rw [fe];exact h1,h2⟩)
 refine hk _ H _ _ (Den.put D' o.dst ?_)
 simp only [rel,qK l aP,if_true,Slot.live]
 exact ⟨(fe _ _ _).symm,hs⟩
theorem abe (C:X.Ok P) (D:Den f s η H a w) {l:Nat} (hl:s.b[l]?=some .un) (t:TypeId) (n m:Operand) (ho:o.op=.makeSlice t n m)
  (h:(Dv X l t (Vc.ev s n) (Vc.ev s m)).K R):eM P f s o a w R:=by
 have hn:=D.ev n
 have hm:=D.ev m
 unfold Dv at h
 split at h<;>first|exact h.elim|skip
 rename_i i hi
 have I:=C.tt _ _ hi
 have bT:=I.desc
 split at h<;>first|exact h.elim|skip
 rename_i e hd
 rw [hd] at bT
 split at h<;>first|exact h.elim|skip
 rename_i k E _ n' _ m' hk hE h1 h2
 have Kk:=C.tt _ _ hk
 have EE:=C.el _ _ hE
 obtain ⟨inf,n1,n2,n3,n4⟩:=Kk.info
 obtain ⟨⟨p0,p1,p2,p3⟩,hR⟩:=h
 have e1:=lz h1 hn
 have e2:=lz h2 hm
 have hr:=λkl kc=>run_make (P:=P) w t e inf k.zero bT n1 n4 kl kc (n' ()) (m' ()) p0 p1 (by rw [n3];exact p2) p3
 have Ai:=Kk.vP
 have pW:=Kk.pos
 refine vx D hl (v:=.slice (some ⟨w.heap.size,0,none⟩) (n' ()).toNat (m' ()).toNat) (w':=w.alloc (.cells (madeCells k.zero.cells ((m' ()).toNat*k.size)) e)) ?_
  (World.grownBy_alloc w _ none) (λb hb=>by simp [bY] at hb<;>omega) ⟨_,_,_,rfl⟩ ?_ hR
 ·simp only [execOp,ho,Sem.run_bind,e1,e2,hr,n2,Result.andThen_ok,Sem.run_pure]
 ·have hle:(n' ()).toNat*k.size<=(m' ()).toNat*k.size:=uf _ (by omega)
  refine ⟨(madeCells k.zero.cells ((m' ()).toNat*k.size)).toList.take ((n' ()).toNat*k.size),.of ⟨?_,.inr ⟨w.heap.size,(m' ()).toNat,_,?_,cI _,heap_alloc_new w _,?_,?_,size_madeCells _ _,?_⟩⟩,?_,?_,EE.lf⟩
  ·simp only [lq,uk,size_madeCells,y4];exact um hle
  ·simp
  ·simp;omega
  ·unfold maxLen;omega
  ·simp
  ·rw [flatMap_replicate]
   have hz:=EE.zero k hk H
   refine Sq hz ?_ ?_
   ·simp only [lq,uk,size_madeCells,Ai];exact um hle
   ·intro j hj
    have iH:k.zero.cells.toList.length=k.size:=by simpa using Ai
    rw [iH] at hj ⊢
    rw [kR,if_pos hj,Tb _ _ _ (by omega) (by omega),Ai]
  ·intro x hx
   exact EE.len k hk x
theorem Tc {T:Type} {c:T->List SV} (h:∀z,cj (c z)):∀zs:List T,cj (zs.flatMap c)
 | []=>trivial
 | z :: r=>by
  rw [o6]
  have app:∀a b:List SV,cj a->cj b->cj (a++b):=by
   intro a
   induction a with
   | nil=>intro b _ h;exact h
   | cons x r ih=>intro b h1 h2;exact ⟨h1.1,ih b h1.2 h2⟩
  exact app _ _ (h z) (Tc h r)
theorem aa0 (C:X.Ok P) (D:Den f s η H a w) {l:Nat} (hl:s.b[l]?=some .un) (t:TypeId) (n:Nat) (parts:Array (Nat × Operand)) (ho:o.op=.buildSlice t n parts)
  (h:(Ds X l t n (parts.toList.map λp=>(p.1,Vc.ev s p.2))).K R):eM P f s o a w R:=by
 unfold Ds at h
 split at h<;>first|exact h.elim|skip
 rename_i i hi
 have I:=C.tt _ _ hi
 have bT:=I.desc
 split at h<;>first|exact h.elim|skip
 rename_i e hd
 rw [hd] at bT
 split at h<;>first|exact h.elim|skip
 rename_i k hk
 have Kk:=C.tt _ _ hk
 obtain ⟨inf,n1,n2,n3,n4⟩:=Kk.info
 have Ai:=Kk.vP
 have pW:=Kk.pos
 have HY:(parts.map λ(x:Nat × Operand)=>(x.1,a.eval x.2)).toList=parts.toList.map λp=>(p.1,a.eval p.2):=by simp
 split at h
 ·split at h<;>first|exact h.elim|skip
  rename_i E hp hE
  have EE:=C.el _ _ hE
  have oQ:parts.toList=[]:=by simpa using hp
  have Fy:parts=#[]:=by simpa using oQ
  have Wd:(execOp a.eval o).run P w=.ok (.value (.slice (some ⟨w.heap.size,0,none⟩) 0 0)) (w.alloc (.cells #[] e)):=by
   simp [execOp,ho,Fy,Instr.buildSlice,run_underlying bT,sizeOf,typeInfo,n1,Instr.fill,newRow,Array.range_zero']
  split at h
  ·refine vx D hl (v:=.slice (some ⟨w.heap.size,0,none⟩) 0 0) (w':=w.alloc (.cells #[] e)) Wd
    (World.grownBy_alloc w _ none) (λb hb=>by simp [bY] at hb<;>omega) ⟨_,_,_,rfl⟩ ?_ h
   exact ⟨[],.of (World.ownsRow_made w #[] 0 (cI _) (by simp [maxLen]) (by simp)),by simp [aL],by simp,EE.lf⟩
  ·refine ⟨_,[],h,λK Q hk=>?_⟩
   unfold Oper.wp
   rw [Wd]
   refine hk _ H _ _ ((D.grown (World.grownBy_alloc w _ none)).put o.dst ?_)
   simp only [rel]
   exact ⟨⟨_,0,rfl,fN _,.inl (by simp)⟩,λz=>(EE.lf z).1⟩
 ·rename_i n
  split at h<;>first|exact h.elim|skip
  rename_i hle
  split at h<;>first|exact h.elim|skip
  rename_i cs fQ
  have hn:¬(16777216 < (n+1)*k.size):=by omega
  have Yk:(n+1)*k.size≠0:=Nat.mul_ne_zero (by omega) (by omega)
  have iH:k.zero.cells.toList.length=k.size:=by simpa using Ai
  have hz:aL η (aO s.b) H (r6 (k.zero.cells.toList.map jz) (n+1)) (madeCells k.zero.cells ((n+1)*k.size)).toList:=by
   refine Sq (wZ η _ H _) (by simp only [uk,size_madeCells];rw [show k.zero.cells.size=k.size from Ai]) λj hj=>?_
   rw [iH] at hj ⊢
   rw [Tb _ _ _ (by omega) hj,Ai]
  obtain ⟨us,g1,g2⟩:=HM _ _ (parts.toList.map λp=>(p.1,a.eval p.2)) _ _ _ (by simp [Hi]) (LP s a _ D) hz fQ
  have gq:(execOp a.eval o).run P w=.ok (.value (.slice (some ⟨w.heap.size,0,none⟩) (n+1) (n+1))) (w.alloc (.cells us.toArray e)):=by
   simp only [execOp,ho,Sem.run_bind,Instr.buildSlice,run_underlying bT,Result.andThen_ok,run_sizeOf Kk]
   rw [if_neg (by simpa using hn),if_neg Yk]
   simp only [Sem.run_bind,zeroValue,typeInfo,run_program,n1,Result.andThen_ok,n4,Sem.run_pure]
   simp only [DB,madeCells] at g1
   rw [show (parts.map λ(x:Nat × Operand)=>(x.1,a.eval x.2)).toList=parts.toList.map λp=>(p.1,a.eval p.2) from HY,g1]
   rfl
  split at h
  case h_2 =>
   split at h<;>first|exact h.elim|skip
   rename_i E hE
   have EE:=C.el _ _ hE
   obtain ⟨ys,⟨y1,y2⟩,hR⟩:=h
   have g3:=iN y1 g2
   have hlen:us.length=(n+1)*k.size:=by
    have h0:=ie g3
    rw [Lp,rI (g:=λ_=>k.size) (λz _=>EE.len k hk z),LC,Lj,y2] at h0
    exact h0
   have x3:n+1<=(n+1)*k.size:=Nat.le_mul_of_pos_right _ pW
   refine vx D hl (v:=.slice (some ⟨w.heap.size,0,none⟩) (n+1) (n+1)) (w':=w.alloc (.cells us.toArray e)) gq
    (World.grownBy_alloc w _ none) (λb hb=>by simp [bY] at hb<;>omega) ⟨_,_,_,rfl⟩ ?_ hR
   refine ⟨us,.of ⟨by rw [y2];exact hlen,.inr ⟨w.heap.size,n+1,_,by rw [y2],cI _,heap_alloc_new w _,by simp [y2],by unfold maxLen;omega,by simp [hlen],?_⟩⟩,?_,λx _=>EE.len k hk x,EE.lf⟩
   ·rw [y2];simp [<-hlen]
   ·exact jn _ _ (Tc (λz=>(EE.lf z).1) ys) g3
  let H':aZ:=λb=>if b=w.heap.size then some (.cells us.toArray e) else H b
  have Nh:H w.heap.size=none:=by
   cases hH:H w.heap.size with
   | none=>rfl
   | some x=>have:=(fi.1 (D.hw _ x hH)).1;omega
  have r7:H.le H':=λb x hb=>by
   simp only [H']
   rw [if_neg (by rintro rfl;rw [Nh] at hb;cases hb)]
   exact hb
  have D':=D.share (w':=w.alloc (.cells us.toArray e)) (H':=H') (World.grownBy_alloc w _ none) r7
   (λb x hb=>by
    simp only [H'] at hb
    split at hb
    ·rename_i OS;subst OS;simp at hb;subst hb;exact heap_alloc_new w _
    ·have:=D.hw b x hb
     rw [(World.grownBy_alloc w _ none).block b (fi.1 this).1 (by simp)];exact this)
   (λb hb=>by
    simp only [H'] at hb
    split at hb
    ·right;omega
    ·left;exact hb)
  refine ⟨_,[],h,λK Q hk=>?_⟩
  unfold Oper.wp
  rw [gq]
  refine hk _ H' _ _ (D'.put o.dst ?_)
  simp only [rel]
  refine ⟨_,rfl,.inr ⟨⟨w.heap.size,0,none⟩,rfl,rfl,us,gm (gQ.refl _ _) r7 _ _ g2,?_⟩⟩
  intro j u hu
  simp only [nW,H',if_true]
  simpa using hu
end
end Go.Vc
