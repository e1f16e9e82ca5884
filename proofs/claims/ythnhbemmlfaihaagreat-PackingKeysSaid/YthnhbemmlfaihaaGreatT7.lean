import Derived.Test.YthnhbemmlfaihaaGreatT6
set_option linter.unusedVariables false
set_option linter.unusedSimpArgs false
set_option maxRecDepth 10000
set_option maxHeartbeats 64000000
namespace Go.Vc
open Go
section
variable {P:Program} {X:Ctx} {f:Fr} {s:St} {η:Nat->Value} {H:bQ} {a:Act} {w:World} {o:Oper} {R:SV->List (Nat × Slot)->Prop}
theorem Jv {q:Nat->Live} {lo:Option Operand} {m:Unit->Int} (D:Den f s η H a w) (h:lower (lo.map (Vc.ev s))=some m) :
  (lo=none/\m ()=0)\/∃x k,lo=some x/\a.eval x=.int k (m ()):=by
 cases lo with
 | none=>simp [lower] at h;subst h;exact .inl ⟨rfl,rfl⟩
 | some x =>
  simp only [yv,lower] at h
  split at h
  ·rename_i k n hn
   simp at h;subst h
   exact .inr ⟨x,k,rfl,oW hn (D.ev x)⟩
  ·cases h
theorem Jw {q:Nat->Live} {len:Unit->Nat} {hi:Option Operand} {m:Unit->Int} (D:Den f s η H a w) (h:bound len (hi.map (Vc.ev s))=some m) :
  (hi=none/\m ()=len ())\/∃x k,hi=some x/\a.eval x=.int k (m ()):=by
 cases hi with
 | none=>simp [bound] at h;subst h;exact .inl ⟨rfl,rfl⟩
 | some x =>
  simp only [yv,bound] at h
  split at h
  ·rename_i k n hn
   simp at h;subst h
   exact .inr ⟨x,k,rfl,oW hn (D.ev x)⟩
  ·cases h
theorem IV (b:Bool) (len cap:Nat) (lo hi:Option Value) (m n:Int) (eW:(lo=none/\m=0)\/∃k,lo=some (.int k m)) (gy:(hi=none/\n=len)\/∃k,hi=some (.int k n))
  (h0:0<=m) (h1:m<=n) (h2:n<=cap) (w:World):(Instr.sliceBounds b len cap lo hi none).run P w=.ok (m.toNat,n.toNat,cap) w:=by
 have hn:0<=n/\n<=(cap:Int):=by omega
 have hm:0<=m/\m<=(n.toNat:Int):=by omega
 rcases eW with ⟨rfl,rfl⟩|⟨k,rfl⟩<;>rcases gy with ⟨rfl,rfl⟩|⟨k',rfl⟩ <;>
  simp [Instr.sliceBounds,Instr.sliceBound,asIntOf,hn,hm]<;>(intro h;omega)
theorem abf (D:Den f s η H a w) {t e:TypeId} {x:Operand} {lo hi:Option Operand} {k:TI} (Kk:oZ P e k) (cV:P.underlying t=some (.slice e)) (ho:o.op=.slice t x lo hi none)
  {T:Type} {c:T->List SV} {xs:Unit->List T} (hx:rel η (bg s.b) H (.sl k.size c xs) (a.eval x)) {m n:Unit->Int} {ln:Unit->Nat} (mu:ln ()=(xs ()).length) (hm:lower (lo.map (Vc.ev s))=some m) (hn:bound ln (hi.map (Vc.ev s))=some n)
  (h0:0<=m ()) (h1:m ()<=n ()) (h2:n ()<=(xs ()).length) (hR:R (.sl k.size c λ_=>((xs ()).take (n ()).toNat).drop (m ()).toNat) []):fS P f s o a w R:=by
 simp only [rel] at hx
 obtain ⟨⟨ad,cap,h3,h4,h5⟩,dn⟩:=hx
 have eW:=Jv (q:=bg s.b) D hm
 have gy:=Jw (q:=bg s.b) D hn
 rw [mu] at gy
 have hb:=IV (P:=P) true (xs ()).length cap (lo.map a.eval) (hi.map a.eval) (m ()) (n ())
  (by
    rcases eW with ⟨rfl,h⟩|⟨y,k,rfl,h⟩
    ·exact .inl ⟨rfl,h⟩
    ·exact .inr ⟨k,by simp [h]⟩)
  (by
    rcases gy with ⟨rfl,h⟩|⟨y,k,rfl,h⟩
    ·exact .inl ⟨rfl,h⟩
    ·exact .inr ⟨k,by simp [h]⟩) h0 h1 (by omega)
 have hlen:(((xs ()).take (n ()).toNat).drop (m ()).toNat).length=(n ()).toNat - (m ()).toNat:=by simp;omega
 refine eP D (v:=.slice (if cap=(m ()).toNat then ad else ad.map (·.add ((m ()).toNat*k.size))) ((n ()).toNat - (m ()).toNat) (cap - (m ()).toNat)) (λw=>?_) ?_ hR
 ·simp only [execOp,ho,h3,Sem.run_bind,Instr.sliceAt,run_underlying cV,Result.andThen_ok,Instr.slice,Gg,hb,run_sizeOf Kk,Sem.run_pure]
 ·simp only [rel,hlen]
  refine ⟨⟨_,_,rfl,by omega,?_⟩,dn⟩
  by_cases hz:(n ()).toNat - (m ()).toNat=0
  ·left;exact mL (by rw [hlen];exact hz)
  right
  rcases h5 with h5|⟨a0,rfl,iw,h6⟩
  ·rw [h5] at h2;simp at h2;omega
  refine ⟨a0.add ((m ()).toNat*k.size),?_,by rw [qR _ iw],λj y hy=>?_⟩
  ·rw [if_neg (by omega)];rfl
  ·rw [lq,sA] at hy
   split at hy
   ·obtain ⟨vals,g1,g2,g3⟩:=h6 _ y hy
    refine ⟨vals,g1,g2,?_⟩
    rw [qR _ iw]
    rw [show a0.off+(m ()).toNat*k.size+j*k.size=a0.off+((m ()).toNat+j)*k.size by rw [Nat.add_mul];omega]
    exact g3
   ·cases hy
theorem an4 (C:X.Ok P) (D:Den f s η H a w) {l:Nat} (t:TypeId) (x:Operand) (lo hi mx:Option Operand) (hl:mx.isSome=true->s.b[l]?=some .un) (ho:o.op=.slice t x lo hi mx)
  (h:(B1 X s.b l t (Vc.ev s x) (lo.map (Vc.ev s)) (hi.map (Vc.ev s)) (mx.map (Vc.ev s))).K R):fS P f s o a w R:=by
 have hx:=D.ev x
 unfold B1 at h
 split at h<;>first|exact h.elim|skip
 rename_i i tT
 have I:=C.tt _ _ tT
 have cV:=I.desc
 split at h<;>first|exact h.elim|skip
 ·rename_i e hd
  rw [hd] at cV
  split at h<;>first|exact h.elim|skip
  rename_i k hk
  have Kk:=C.tt _ _ hk
  split at h
  ·rename_i hc
   simp only [ei] at hc
   obtain ⟨k9,oD⟩:=hc
   split at h<;>first|exact h.elim|skip
   rename_i E hE
   have EE:=C.el _ _ hE
   have jc:Value.isSlice (a.eval x):=by
    cases hq:Vc.ev s x<;>rw [hq] at oD hx<;>simp [afU] at oD<;>simp only [rel] at hx
    ·exact ⟨_,_,_,hx⟩
    ·split at hx
     ·exact hx.elim
     ·exact hx
     ·exact hx.2
    ·obtain ⟨ad,hx,_⟩:=hx;exact ⟨_,_,_,hx⟩
    ·obtain ⟨⟨ad,cap,hx,_⟩,_⟩:=hx;exact ⟨_,_,_,hx⟩
   obtain ⟨ad,n,cp,tU⟩:=jc
   have hb:∃y z k1 k2,lo=none/\hi=some y/\mx=some z/\a.eval y=.int k1 0/\a.eval z=.int k2 0:=by
    unfold clip at k9
    split at k9
    ·rename_i k1 k2 e1 e2 e3
     cases lo<;>simp at e1
     cases hi<;>simp at e2
     cases mx<;>simp at e3
     rename_i y z
     have hy:=D.ev y
     have hz:=D.ev z
     rw [e2] at hy;rw [e3] at hz
     simp only [rel] at hy hz
     exact ⟨y,z,_,_,rfl,rfl,rfl,hy,hz⟩
    ·cases k9
   obtain ⟨y,z,k1,k2,rfl,rfl,rfl,hy,hz⟩:=hb
   refine Bw D (hl rfl) (v:=.slice ad 0 0) (w':=w) ?_ (qQ w none) (λb hb=>by cases ad<;>simp [dt] at hb) ⟨_,_,_,rfl⟩ ?_ h
   ·simp [execOp,ho,hy,hz,tU,Instr.sliceAt,run_underlying cV,Instr.slice,Instr.sliceBounds,Instr.sliceBound,asIntOf,run_sizeOf Kk]
   ·exact ⟨[],.inr ⟨⟨ad,rfl⟩,rfl,rfl⟩,by simp [a_],by simp,EE.lf⟩
  ·split at h<;>first|exact h.elim|skip
   ·rename_i T sz c xs z ex em
    split at h<;>first|exact h.elim|skip
    rename_i dY
    subst dY
    split at h<;>first|exact h.elim|skip
    rename_i kn n kz m elo hn hz
    obtain ⟨⟨h1,h2⟩,hR⟩:=h
    obtain ⟨mz,rfl,emz⟩:∃mz,mx=some mz/\Vc.ev s mz=z:=by
     cases mx with
     | none=>cases em
     | some mz=>simp at em;exact ⟨mz,rfl,em⟩
    have ar1:lo=none:=by cases lo<;>simp at elo;rfl
    subst ar1
    rw [ex] at hx
    simp only [rel] at hx
    obtain ⟨⟨ad,cap,h3,h4,h5⟩,dn⟩:=hx
    obtain ⟨yh,rfl,hyh⟩:∃yh,hi=some yh/\(Vc.ev s yh).lD=some (kn,n):=by
     cases hi with
     | none=>cases hn
     | some yh=>exact ⟨yh,rfl,by simpa using hn⟩
    have Fq:=oW hyh (D.ev yh)
    have hmz:a.eval mz=.int kz (m ()):=oW (by rw [<-emz] at hz;exact hz) (D.ev mz)
    have hb:(Instr.sliceBounds true (xs ()).length cap none (some (a.eval yh)) (some (a.eval mz))).run P w=.ok (0,(xs ()).length,(xs ()).length) w:=by
     rw [hmz]
     have q1:0<=m ()/\m ()<=(cap:Int):=by omega
     have q2:(m ()).toNat=(xs ()).length:=by omega
     have q3:(n ()).toNat=(xs ()).length:=by omega
     have q4:0<=n ()/\n ()<=m ():=by omega
     have q5:((xs ()).length:Int)<=(cap:Int):=by omega
     rw [Fq,h1,h2]
     simp [Instr.sliceBounds,Instr.sliceBound,asIntOf,q5]
    refine Ad D (v:=.slice (if (xs ()).length=0 then ad else ad.map (·.add (0*k.size))) (xs ()).length (xs ()).length) (w':=w) ?_ (qQ w none) ?_ hR
    ·simp only [execOp,ho,h3,Sem.run_bind,Instr.sliceAt,run_underlying cV,Result.andThen_ok,Instr.slice,Gg,yv,hb,run_sizeOf Kk,Sem.run_pure,Nat.sub_zero]
    ·simp only [rel]
     refine ⟨⟨_,rfl,?_⟩,dn⟩
     rcases h5 with h5|⟨a0,rfl,iw,h6⟩
     ·exact .inl h5
     by_cases gl:xs ()=[]
     ·exact .inl gl
     right
     have:(xs ()).length≠0:=λe=>gl (mL e)
     refine ⟨a0,?_,iw,h6⟩
     rw [if_neg this]
     simp [qR _ iw]
     cases a0;simp_all
   ·rename_i T sz c xs ex em
    split at h<;>first|exact h.elim|skip
    rename_i dY
    subst dY
    split at h<;>first|exact h.elim|skip
    rename_i m n hm hn
    obtain ⟨⟨h0,h1,h2⟩,hR⟩:=h
    have xP:mx=none:=by cases mx<;>simp at em;rfl
    subst xP
    rw [ex] at hx
    simp only [rel] at hx
    obtain ⟨⟨ad,cap,h3,h4,h5⟩,dn⟩:=hx
    exact abf D Kk cV ho (by simp only [rel];exact ⟨⟨ad,cap,h3,h4,h5⟩,dn⟩) rfl hm hn h0 h1 h2 hR
   ·rename_i l0 ex em
    split at h<;>first|exact h.elim|skip
    rename_i T e' sz c xs hs
    split at h<;>first|exact h.elim|skip
    rename_i dY
    subst dY
    split at h<;>first|exact h.elim|skip
    rename_i m n hm hn
    obtain ⟨⟨h0,h1,h2⟩,hR⟩:=h
    have xP:mx=none:=by cases mx<;>simp at em;rfl
    subst xP
    rw [ex] at hx
    simp only [rel,dg hs,Slot.live] at hx
    obtain ⟨vals,pO,h4,h5,mV⟩:=D.sl l0 _ hs
    obtain ⟨ad,cap,jc,EL⟩:=pO.slice
    have eW:=Jv (q:=bg s.b) D hm
    have gy:=Jw (q:=bg s.b) D hn
    have hb:=IV (P:=P) true (xs ()).length cap (lo.map a.eval) (hi.map a.eval) (m ()) (n ())
     (by
       rcases eW with ⟨rfl,h⟩|⟨y,k,rfl,h⟩
       ·exact .inl ⟨rfl,h⟩
       ·exact .inr ⟨k,by simp [h]⟩)
     (by
       rcases gy with ⟨rfl,h⟩|⟨y,k,rfl,h⟩
       ·exact .inl ⟨rfl,h⟩
       ·exact .inr ⟨k,by simp [h]⟩) h0 h1 (by omega)
    have oC:a.eval x=.slice ad (xs ()).length cap:=hx.1.trans jc
    refine eP D (v:=.slice (if cap=(m ()).toNat then ad else ad.map (·.add ((m ()).toNat*k.size))) ((n ()).toNat - (m ()).toNat) (cap - (m ()).toNat)) (λw=>?_) ?_ hR
    ·simp only [execOp,ho,oC,Sem.run_bind,Instr.sliceAt,run_underlying cV,Result.andThen_ok,Instr.slice,Gg,hb,run_sizeOf Kk,Sem.run_pure]
    ·simp only [rel,dg hs,Slot.live]
     refine ⟨ad,_,cap,jc,by omega,by omega,_,_,rfl,by omega,λaR=>?_⟩
     have h3:=pO.pos (show 0 < (xs ()).length by omega)
     rcases h3.2 with ⟨nW,_⟩|⟨g,uN,cur,hg,_,_,_⟩
     ·rw [jc] at nW;simp at nW;omega
     ·rw [jc] at hg;simp at hg
      refine ⟨g,hg.1,?_⟩
      rw [if_neg (by omega),hg.1]
      simp [uG]
   ·rename_i l0 sz g h' ex em
    split at h<;>first|exact h.elim|skip
    rename_i T e' k7 c xs hs
    split at h<;>first|exact h.elim|skip
    rename_i dY
    subst dY
    split at h<;>first|exact h.elim|skip
    rename_i m n hm hn
    obtain ⟨⟨h0,h1,h2⟩,hR⟩:=h
    have xP:mx=none:=by cases mx<;>simp at em;rfl
    subst xP
    rw [ex] at hx
    simp only [rel,dg hs,Slot.live] at hx
    obtain ⟨ad,nn,c0,p1,p2,p3,qz,cap,oC,p5,p6⟩:=hx
    have eW:=Jv (q:=bg s.b) D hm
    have gy:=Jw (q:=bg s.b) D hn
    have hb:=IV (P:=P) true (h' () - g ()) cap (lo.map a.eval) (hi.map a.eval) (m ()) (n ())
     (by
       rcases eW with ⟨rfl,h⟩|⟨y,k,rfl,h⟩
       ·exact .inl ⟨rfl,h⟩
       ·exact .inr ⟨k,by simp [h]⟩)
     (by
       rcases gy with ⟨rfl,h⟩|⟨y,k,rfl,h⟩
       ·exact .inl ⟨rfl,h⟩
       ·exact .inr ⟨k,by simp [h]⟩) h0 h1 (by omega)
    refine eP D (v:=.slice (if cap=(m ()).toNat then qz else qz.map (·.add ((m ()).toNat*k.size))) ((n ()).toNat - (m ()).toNat) (cap - (m ()).toNat)) (λw=>?_) ?_ hR
    ·simp only [execOp,ho,oC,Sem.run_bind,Instr.sliceAt,run_underlying cV,Result.andThen_ok,Instr.slice,Gg,hb,run_sizeOf Kk,Sem.run_pure]
    ·simp only [rel,dg hs,Slot.live]
     refine ⟨ad,nn,c0,p1,by omega,by omega,_,_,by rw [show g ()+(n ()).toNat - (g ()+(m ()).toNat)=(n ()).toNat - (m ()).toNat by omega],by omega,λaR=>?_⟩
     obtain ⟨bl,q1,q2⟩:=p6 (by omega)
     refine ⟨bl,q1,?_⟩
     rw [if_neg (by omega),q2]
     simp [uG,Nat.add_mul]
   ·rename_i cs n ex em
    split at h<;>first|exact h.elim|skip
    rename_i E hE
    have EE:=C.el _ _ hE
    split at h<;>first|exact h.elim|skip
    rename_i m n' hm hn
    obtain ⟨l,⟨pP,uV,h0,h1,h2⟩,hR⟩:=h
    have xP:mx=none:=by cases mx<;>simp at em;rfl
    subst xP
    rw [ex] at hx
    have uW:=vI (Le.eH (c:=E.c) (ys:=λ_=>l) pP (λy _=>EE.len k hk y) (λx=>(EE.lf x).1) uV) hx
    exact abf D Kk cV ho uW pP.symm hm hn h0 h1 (by omega) hR
 ·rename_i hd
  rw [hd] at cV
  split at h<;>first|exact h.elim|skip
  rename_i y ex em
  split at h<;>first|exact h.elim|skip
  rename_i m n hm hn
  obtain ⟨⟨h0,h1,h2⟩,hR⟩:=h
  have xP:mx=none:=by cases mx<;>simp at em;rfl
  subst xP
  rw [ex] at hx
  simp only [rel] at hx
  have eW:=Jv (q:=bg s.b) D hm
  have gy:=Jw (q:=bg s.b) D hn
  have hb:=IV (P:=P) false (y ()).size (y ()).size (lo.map a.eval) (hi.map a.eval) (m ()) (n ())
    (by
      rcases eW with ⟨rfl,h⟩|⟨y,k,rfl,h⟩
      ·exact .inl ⟨rfl,h⟩
      ·exact .inr ⟨k,by simp [h]⟩)
    (by
      rcases gy with ⟨rfl,h⟩|⟨y,k,rfl,h⟩
      ·exact .inl ⟨rfl,h⟩
      ·exact .inr ⟨k,by simp [h]⟩) h0 h1 (by omega)
  refine eP D (v:=.string ((y ()).extract (m ()).toNat (n ()).toNat)) (λw=>?_) (by simp only [rel]) hR
  simp [execOp,ho,hx,Instr.sliceAt,run_underlying cV,Instr.slice,hb]
 ·rename_i n e hd
  rw [hd] at cV
  split at h<;>first|exact h.elim|skip
  rename_i k E hk hE
  have Kk:=C.tt _ _ hk
  have EE:=C.el _ _ hE
  split at h<;>first|exact h.elim|skip
  rename_i cs off ex em
  split at h<;>first|exact h.elim|skip
  rename_i m hh hm hn
  obtain ⟨l,⟨pP,uV,h0,h1,h2⟩,hR⟩:=h
  have xP:mx=none:=by cases mx<;>simp at em;rfl
  subst xP
  rw [ex] at hx
  simp only [rel] at hx
  obtain ⟨a0,hv,vals,nQ,JT⟩:=hx
  have eW:=Jv (q:=bg s.b) D hm
  have gy:=Jw (q:=bg s.b) D hn
  have hb:=IV (P:=P) false n n (lo.map a.eval) (hi.map a.eval) (m ()) (hh ())
    (by
      rcases eW with ⟨rfl,h⟩|⟨y,k,rfl,h⟩
      ·exact .inl ⟨rfl,h⟩
      ·exact .inr ⟨k,by simp [h]⟩)
    (by
      rcases gy with ⟨rfl,h⟩|⟨y,k,rfl,h⟩
      ·exact .inl ⟨rfl,h⟩
      ·exact .inr ⟨k,by simp [h]⟩) h0 h1 (by omega)
  have hlen:((l.take (hh ()).toNat).drop (m ()).toNat).length=(hh ()).toNat - (m ()).toNat:=by simp;omega
  have se:=kC uV (Gm (Gl nQ off) (n*k.size))
  refine eP D (v:=.slice (some (if n=(m ()).toNat then ⟨a0.block,a0.off+off,none⟩ else (⟨a0.block,a0.off+off,none⟩:Addr).add ((m ()).toNat*k.size))) ((hh ()).toNat - (m ()).toNat) (n - (m ()).toNat)) (λw=>?_) ?_ hR
  ·simp only [execOp,ho,hv,Sem.run_bind,Instr.sliceAt,run_underlying cV,Result.andThen_ok,Instr.sureAddr,Gg,hb,run_sizeOf Kk,Sem.run_pure]
  ·simp only [rel,hlen]
   refine ⟨⟨_,_,rfl,by omega,?_⟩,λx=>(EE.lf x).1⟩
   by_cases hz:(hh ()).toNat - (m ()).toNat=0
   ·left;exact mL (by rw [hlen];exact hz)
   right
   refine ⟨_,rfl,?_,λj y hy=>?_⟩
   ·rw [if_neg (by omega),qR _ rfl]
   ·rw [lq,sA] at hy
    split at hy
    ·have g:=DA (λx _=>EE.len k hk x) se _ y hy
     refine ⟨_,?_,g,?_⟩
     ·rw [jQ g];exact EE.len k hk y
     ·rw [if_neg (by omega),qR _ rfl]
      intro i u hu
      rw [sA] at hu
      split at hu
      ·rw [lq,sA] at hu
       split at hu
       ·rw [lq] at hu
        have:=JT _ u hu
        rw [show a0.off+off+(m ()).toNat*k.size+j*k.size+i=a0.off+(off+(((m ()).toNat+j)*k.size+i)) by rw [Nat.add_mul];omega]
        exact this
       ·cases hu
      ·cases hu
    ·cases hy
theorem af0 {α:Type} {β:Type 1} {f:α->β} {l:List α} {x:β} (h:l.map f=[x]):∃a,l=[a]/\f a=x:=by
 match l,h with
 | [a],h=>simp at h;exact ⟨a,rfl,h⟩
theorem Kx {α:Type} {β:Type 1} {f:α->β} {l:List α} {x y:β} (h:l.map f=[x,y]):∃a b,l=[a,b]/\f a=x/\f b=y:=by
 match l,h with
 | [a,b],h=>simp at h;exact ⟨a,b,rfl,h.1,h.2⟩
theorem af1 {α:Type} {β:Type 1} {f:α->β} {l:List α} {x y z:β} (h:l.map f=[x,y,z]):∃a b c,l=[a,b,c]/\f a=x/\f b=y/\f c=z:=by
 match l,h with
 | [a,b,c],h=>simp at h;exact ⟨a,b,c,rfl,h.1,h.2.1,h.2.2⟩
def jH (w:World):bQ:=λb=>w.heap[b]?
theorem Bv (w:World):(jH w).j6 w:=λb o h=>h
theorem ak8 {b o:Nat} {u:Value} (h:w.cell? ⟨b,o,none⟩=some u):sH (jH w) b o=some u:=by
 unfold World.cell? at h
 unfold sH jH
 split at h
 ·rename_i c e fz he
  simp at he
  simp [he] at h ⊢
  exact h
 ·cases h
structure xw (D:Den f s η H a w) (G:bQ):Prop where
 le:H.le G
 own:∀l b,bg s.b l=.live->dt (η l)=some b->G b=w.heap[b]?
theorem xw.world (D:Den f s η H a w):xw D (jH w):=⟨D.hw,λ_ _ _ _=>rfl⟩
theorem abg (D:Den f s η H a w) {G:bQ} {l:Nat} {T:Type} {e:TypeId} {sz:Nat} {c:T->List SV} {xs:Unit->List T} (hs:s.b[l]?=some (.dyn e sz c xs)) (hle:H.le G) (qv:∀b,dt (η l)=some b->G b=w.heap[b]?) :
  rel η (bg s.b) G (.sl sz c xs) (η l):=by
 obtain ⟨vals,pO,h4,h5,mV⟩:=D.sl l _ hs
 have ec:bg s.b l=.live:=by rw [dg hs];rfl
 simp only [rel]
 refine ⟨?_,λx=>(mV x).1⟩
 obtain ⟨ad,cp,jc,Fp⟩:=pO.slice
 refine ⟨ad,cp,jc,Fp,?_⟩
 by_cases hn:xs ()=[]
 ·exact .inl hn
 right
 have xu:0 < (xs ()).length:=by cases hq:xs () with|nil=>exact absurd hq hn|cons=>simp
 have h3:=pO.pos xu
 rcases h3.2 with ⟨hz,Fs⟩|⟨g,uN,cur,hg,_,oB,Av,v_,k8,vM⟩
 ·omega
 rw [hg] at jc
 simp at jc
 refine ⟨⟨g,0,none⟩,jc.1.symm,rfl,λj x hx=>?_⟩
 have h6:=DA h5 h4 j x hx
 refine ⟨_,?_,ez.up hle h6,λk u hu=>?_⟩
 ·rw [jQ h6];exact h5 x (b_ hx)
 ·rw [sA] at hu
  split at hu
  ·rw [lq] at hu
   have hG:=qv g (by rw [hg];simp only [dt];rw [if_neg (by omega)])
   have hc:=h3.cells (g:=g) (by rw [hg];rfl) _ u hu
   rw [uG,cell_of_row w g _ cur e (0,0) oB] at hc
   simp only [sH,hG,oB,sB]
   simpa using hc
  ·cases hu
theorem abh {D:Den f s η H a w} {G:bQ} (S:xw D G) {l:Nat} {T:Type} {e:TypeId} {sz:Nat} {c:T->List SV} {xs:Unit->List T} (hs:s.b[l]?=some (.dyn e sz c xs)) :
 rel η (bg s.b) G (.sl sz c xs) (η l):=abg D hs S.le (λb hb=>S.own l b (by rw [dg hs];rfl) hb)
theorem an5 {q:Nat->Live} {G:bQ} {T:Type} {sz:Nat} {c:T->List SV} {xs:Unit->List T} {o v:Value} {m n:Nat} (h:rel η q G (.sl sz c xs) o) (hp:GW o sz m n v) :
  rel η q G (.sl sz c λ_=>((xs ()).take n).drop m) v:=by
 simp only [rel] at h ⊢
 obtain ⟨⟨ad,cap,rfl,h2,h3⟩,dn⟩:=h
 refine ⟨?_,dn⟩
 obtain ⟨ad0,nn,c0,h4,h5,h6,qz,c',rfl,h8,h9⟩:=hp
 simp at h4
 obtain ⟨rfl,rfl,rfl⟩:=h4
 have hlen:(((xs ()).take n).drop m).length=n - m:=by simp;omega
 refine ⟨qz,c',by rw [hlen],by rw [hlen];exact h8,?_⟩
 by_cases Fm:m < n
 ·right
  obtain ⟨bl,rfl,rfl⟩:=h9 Fm
  rcases h3 with h3|⟨a0,Fo,iw,rS⟩
  ·rw [h3] at h6;simp at h6;omega
  ·simp at Fo;subst Fo
   refine ⟨_,rfl,rfl,λj x hx=>?_⟩
   rw [lq,sA] at hx
   split at hx
   ·obtain ⟨vals,g1,g2,g3⟩:=rS _ x hx
    refine ⟨vals,g1,g2,λk u hu=>?_⟩
    rw [<-g3 k u hu]
    congr 1
    rw [Nat.add_mul];simp only;omega
   ·cases hx
 ·left
  exact mL (by rw [hlen];omega)
theorem amR {D:Den f s η H a w} {G:bQ} (S:xw D G) {l:Nat} {e:TypeId} {cs:List SV} (hs:s.b[l]?=some (.fix e cs)) :
  ∃bl vs,η l=.pointer (some ⟨bl,0,none⟩)/\DW G bl 0 vs/\a_ η (bg s.b) H cs vs:=by
 obtain ⟨bl,vs,h3,h4,h5⟩:=D.sl l _ hs
 have hG:=S.own l bl (by rw [dg hs];rfl) (by rw [h3];rfl)
 refine ⟨bl,vs.toList,h3,λj u hu=>?_,h5⟩
 simp only [sH,hG,h4]
 simpa using hu
theorem GJ {D:Den f s η H a w} {G:bQ} (S:xw D G):∀(n:Nat) (x:SV) (v:Value),rel η (bg s.b) H x v->rel η (bg s.b) G (jK s.b n x) v
 | 0,x,v,h=>xc (jA.refl _ _) S.le x v h
 | n+1,x,v,h=>by
  have up:∀{y:SV} {v:Value},rel η (bg s.b) H y v->rel η (bg s.b) G y v:=λ{y v} h=>xc (jA.refl _ _) S.le y v h
  have map:∀(cs:List SV) (vs:List Value),a_ η (bg s.b) H cs vs->a_ η (bg s.b) G (cs.map (jK s.b n)) vs:=by
   intro cs
   induction cs with
   | nil=>intro vs h;simpa [a_] using h
   | cons c r ih =>
    intro vs h
    simp only [a_,lM] at h ⊢
    obtain ⟨u,us,h1,h2,h3⟩:=h
    exact ⟨u,us,h1,GJ S n c u h2,ih us h3⟩
  cases x with
  | own l =>
   simp only [jK]
   split
   ·rename_i T e sz c xs hs
    simp only [rel,dg hs,Slot.live] at h
    rw [h.1]
    exact abh S hs
   ·exact up h
  | gI l sz m k =>
   simp only [jK]
   split
   ·rename_i T e k7 c xs hs
    split
    ·rename_i dY
     obtain rfl:=oR dY
     simp only [rel,dg hs,Slot.live] at h
     exact an5 (abh S hs) h
    ·exact up h
   ·exact up h
  | ptr l off =>
   simp only [jK]
   split
   ·rename_i e cs hs
    simp only [rel,dg hs,Slot.live] at h
    obtain ⟨bl,h1,h2⟩:=h
    obtain ⟨lV,vs,h3,h4,h5⟩:=amR S hs
    rw [h1] at h3
    simp at h3;subst h3
    simp only [rel]
    exact ⟨⟨bl,0,none⟩,by rw [h2];simp,vs,map _ _ h5,h4⟩
   ·exact up h
  | eV l =>
   simp only [jK]
   split
   ·rename_i T k c m hs
    simp only [rel,dg hs,Slot.live] at h
    obtain ⟨r,es,clock,h3,h4,hM,dn⟩:=D.sl l _ hs
    have hG:=S.own l r (by rw [dg hs];rfl) (by rw [h3];rfl)
    simp only [rel]
    exact ⟨.inr ⟨r,es,clock,h.1.trans h3,by rw [hG];exact h4,hM.mono λt u hu=>ez.up S.le hu⟩,dn⟩
   ·exact up h
  | fn f xs ys =>
   simp only [jK]
   simp only [rel] at h ⊢
   obtain ⟨fs,cs,h1,h2,h3⟩:=h
   exact ⟨fs,cs,h1,map _ _ h2,map _ _ h3⟩
  | agg cs =>
   simp only [jK]
   simp only [rel] at h ⊢
   obtain ⟨vs,h1,h2⟩:=h
   exact ⟨vs,h1,map _ _ h2⟩
  | dE cs =>
   simp only [jK]
   simp only [rel] at h ⊢
   obtain ⟨vs,h1,h2⟩:=h
   exact ⟨vs,h1,map _ _ h2⟩
  | _=>simp only [jK];exact up h
mutual
theorem RY {η η':Nat->Value} {q q':Nat->Live} {H H':bQ}:∀(x:SV) (v:Value),x.scalar=true->rel η q H x v->rel η' q' H' x v
 | .bc c,v,_,h=>by simpa [rel] using h
 | .b x,v,_,h=>by simpa [rel] using h
 | .nb d p,v,l,_=>by simp [SV.scalar] at l
 | .ic k n,v,_,h=>by simpa [rel] using h
 | .i k n,v,_,h=>by simpa [rel] using h
 | .str x,v,_,h=>by simpa [rel] using h
 | .agg cs,v,l,h=>by
  simp only [rel,SV.scalar] at h l ⊢
  obtain ⟨vs,h1,h2⟩:=h
  exact ⟨vs,h1,MY cs vs l h2⟩
 | .dE cs,v,l,h=>by
  simp only [rel,SV.scalar] at h l ⊢
  obtain ⟨vs,h1,h2⟩:=h
  exact ⟨vs,h1,MY cs vs l h2⟩
 | .any,_,l,_=>by simp [SV.scalar] at l
 | .cell,_,l,_=>by simp [SV.scalar] at l
 | .v x,v,l,_=>by simp [SV.scalar] at l
 | .di,v,l,_=>by simp [SV.scalar] at l
 | .ptr _ off,v,l,h=>by simp [SV.scalar] at l
 | .gZ _ sz i off,v,l,h=>by simp [SV.scalar] at l
 | .own _,v,l,h=>by simp [SV.scalar] at l
 | .gI _ _ _ _,v,l,h=>by simp [SV.scalar] at l
 | .eH cs n,v,l,h=>by simp [SV.scalar] at l
 | .sl sz c xs,v,l,h=>by simp [SV.scalar] at l
 | .dC cs off,v,l,h=>by simp [SV.scalar] at l
 | .fn f first cap,v,l,h=>by simp [SV.scalar] at l
 | .nT t x,v,l,h=>by simp [SV.scalar] at l
 | .im sz c xs,v,l,h=>by simp [SV.scalar] at l
 | .mp k c m,v,l,h=>by simp [SV.scalar] at l
 | .opt p x,v,l,h=>by simp [SV.scalar] at l
 | .eV _,v,l,h=>by simp [SV.scalar] at l
 | .iq _,v,l,h=>by simp [SV.scalar] at l
theorem MY {η η':Nat->Value} {q q':Nat->Live} {H H':bQ}:∀(x:List SV) (v:List Value),GH x=true->a_ η q H x v->a_ η' q' H' x v
 | [],v,_,h=>by simpa [a_] using h
 | s :: r,v,l,h=>by
  simp only [a_,GH,ei] at h l ⊢
  obtain ⟨x,xs,h1,h2,h3⟩:=h
  exact ⟨x,xs,h1,RY s x l.1 h2,MY r xs l.2 h3⟩
end
theorem Zl {fid:FuncId} {fn:Func} (F:nP P fid fn) (args:Array Value) (w:World):(callFunc fid args).run P w=.ok (.enter fid args) w:=by
 have h:=F.body
 cases hb:fn.body with
 | none=>rw [hb] at h;cases h
 | some c =>
  have hn : ¬ fn.name = "runtime.NumGoroutine" := by simpa using F.name
  simp [callFunc,F.get,hn,hb]
theorem aan {c:Call} {g:Operand} {fid:FuncId} {fn:Func} (F:nP P fid fn) (ho:o.op=.call c) (hg:c.callee=.value g) {fs cs:List Value} (hv:a.eval g=.func (.func fid) fs.toArray cs.toArray) (w:World) :
  (execOp a.eval o).run P w=.ok (.enter fid (fs++c.args.toList.map a.eval++cs).toArray) w:=by
 unfold execOp
 simp only [ho,resolve,hg,hv,Deferred.ofValue,Sem.run_bind,Sem.run_pure,Result.andThen_ok,invoke]
 have:(fs.toArray++Array.map a.eval c.args++cs.toArray)=(fs++c.args.toList.map a.eval++cs).toArray:=by
  apply oU
  simp
 rw [this]
 exact Zl F _ w
theorem MP {w w':World} (h:(jH w).j6 w') (h1:w'.os=w.os) (h2:w'.tape=w.tape) (h3:w'.output=w.output):w.grownBy w' none:=by
 refine ⟨h1,h2,h3,?_,λb hb _=>?_⟩
 ·by_cases hs:w.heap.size=0
  ·omega
  ·have:=h (w.heap.size - 1) w.heap[w.heap.size - 1] (by simp [jH])
   have:=(jh.1 this).1
   omega
 ·have:=h b w.heap[b] (by simp [jH,hb])
  rw [this]
  simp [hb]
theorem ach (b:List Slot):∀(n:Nat) (x:SV),x.lb=false->jK b n x=x
 | 0,x,_=>rfl
 | n+1,x,h=>by
  have map:∀(cs:List SV),sU cs=false->cs.map (jK b n)=cs:=by
   intro cs
   induction cs with
   | nil=>intro _;rfl
   | cons c r ih =>
    intro h
    simp only [sU,uD] at h
    rw [lM,ach b n c h.1,ih h.2]
  cases x<;>simp only [SV.lb] at h<;>first|(cases h;done)|rfl|(simp only [jK];rw [map _ h];done)|(simp only [uD] at h;simp only [jK];rw [map _ h.1,map _ h.2])
theorem S5 (b:List Slot):∀(xs:List SV),sU xs=false->xs.map (view b)=xs
 | [],_=>rfl
 | x :: r,h=>by
  simp only [sU,uD] at h
  rw [lM,S5 b r h.2]
  exact congrArg (· :: r) (ach b 4 x h.1)
mutual
theorem al8 {q:Nat->Live}:∀(x:SV) (v:Value),rel η q H x v->rel η q H (kV x) v
 | .ptr ..,v,h=>by simp only [kV];show v.oneCell'=true;exact Ak rfl h
 | .gZ ..,v,h=>by simp only [kV];show v.oneCell'=true;exact Ak rfl h
 | .own _,v,h=>by simp only [kV];show v.oneCell'=true;exact Ak rfl h
 | .gI ..,v,h=>by simp only [kV];show v.oneCell'=true;exact Ak rfl h
 | .eV _,v,h=>by simp only [kV];show v.oneCell'=true;exact Ak rfl h
 | .iq _,v,h=>by simp only [kV];show v.oneCell'=true;exact Ak rfl h
 | .agg cs,v,h=>by
  simp only [kV,rel] at h ⊢
  obtain ⟨vs,h1,h2⟩:=h
  exact ⟨vs,h1,DC cs vs h2⟩
 | .dE cs,v,h=>by
  simp only [kV,rel] at h ⊢
  obtain ⟨vs,h1,h2⟩:=h
  exact ⟨vs,h1,DC cs vs h2⟩
 | .fn f xs ys,v,h=>by
  simp only [kV,rel] at h ⊢
  obtain ⟨fs,cs,h1,h2,h3⟩:=h
  exact ⟨fs,cs,h1,DC xs fs h2,DC ys cs h3⟩
 | .any,v,h=>by simp only [kV];exact h
 | .cell,v,h=>by simp only [kV];exact h
 | .bc _,v,h=>by simp only [kV];exact h
 | .b _,v,h=>by simp only [kV];exact h
 | .nb _ _,v,h=>by simp only [kV];exact h
 | .ic _ _,v,h=>by simp only [kV];exact h
 | .i _ _,v,h=>by simp only [kV];exact h
 | .str _,v,h=>by simp only [kV];exact h
 | .v _,v,h=>by simp only [kV];exact h
 | .di,v,h=>by simp only [kV];exact h
 | .eH _ _,v,h=>by simp only [kV];exact h
 | .sl _ _ _,v,h=>by simp only [kV];exact h
 | .im _ _ _,v,h=>by simp only [kV];exact h
 | .dC _ _,v,h=>by simp only [kV];exact h
 | .nT _ _,v,h=>by simp only [kV];exact h
 | .mp _ _ _,v,h=>by simp only [kV];exact h
 | .opt _ _,v,h=>by simp only [kV];exact h
theorem DC {q:Nat->Live}:∀(x:List SV) (v:List Value),a_ η q H x v->a_ η q H (yE x) v
 | [],v,h=>h
 | x :: r,v,h=>by
  simp only [yE,a_] at h ⊢
  obtain ⟨u,us,h1,h2,h3⟩:=h
  exact ⟨u,us,h1,al8 x u h2,DC r us h3⟩
end
theorem ao4 (C:X.Ok P) (D:Den f s η H a w) {c:Call} {g:Operand} {fid:FuncId} {first cap:List SV} (ho:o.op=.call c) (hg:c.callee=.value g) (hv:Vc.ev s g=.fn (.func fid) first cap)
  (h:(G7 X s.b fid (first++c.args.toList.map (Vc.ev s)++cap)).K R):fS P f s o a w R:=by
 have sg:=D.ev g
 rw [hv] at sg
 simp only [rel] at sg
 obtain ⟨fs,cs,h1,h2,h3⟩:=sg
 have om:a_ η (bg s.b) H (first++c.args.toList.map (Vc.ev s)++cap) (fs++c.args.toList.map a.eval++cs):=jx (jx h2 (D.Fi _)) h3
 unfold G7 at h
 split at h<;>first|exact h.elim|skip
 rename_i S hS
 have SS:=C.sp _ _ hS
 obtain ⟨fn,F⟩:=SS.fn
 have iW:=aan F ho hg h1 w
 have fin:∀(α:S.α),S.pre α->R (S.res α) []->∀(Hc:bQ),Hc.j6 w->ez Hc (S.args α) (fs++c.args.toList.map a.eval++cs) ->
   (∀H' w' v,Hc.le H'->H'.j6 w'->w.grownBy w' none->(∀b,H' b≠none->Hc b≠none\/w.heap.size<=b)->sJ H' (S.res α) v->∃η' H2,Den f (s.ga o.dst (S.res α) []) η' H2 (a.put o.dst v) w')->fS P f s o a w R:=by
  intro α e9 hR Hc dK nQ rn
  refine ⟨_,[],hR,λK Q hk=>?_⟩
  unfold Oper.wp
  rw [iW]
  refine (SS.run α e9 Hc (jH w) w _ dK (Bv w) nQ).mono λe w' ⟨v,H',he,g1,g2,g3,g4,g5,g6,g7,g8⟩=>?_
  subst he
  have pR:=MP g3 g6 g7 g8
  obtain ⟨η',H2,D'⟩:=rn H' w' v g1 g2 pR (λb hb=>by
   rcases g4 b hb with h|h
   ·exact .inl h
   ·right
    unfold jH at h
    simpa using h) g5
  exact hk η' H2 w' v D'
 split at h
 ·obtain ⟨α,⟨⟨hle,mY⟩|hle,e9⟩,hR⟩:=h
  case inr =>
   refine fin α e9 hR H D.hw (lx _ _ (SS.lf α) (kC hle (DC _ _ om))) ?_
   intro H' w' v vT dK pR bw iX
   exact ⟨η,H',(D.share pR vT dK bw).put o.dst (sJ.up (bQ.le.refl H') iX)⟩
  cases hl:sU (first++c.args.toList.map (Vc.ev s)++cap) with
  | false =>
   rw [S5 s.b _ hl] at hle
   refine fin α e9 hR H D.hw (lx _ _ (SS.lf α) (kC hle om)) ?_
   intro H' w' v vT dK pR bw iX
   exact ⟨η,H',(D.share pR vT dK bw).put o.dst (sJ.up (bQ.le.refl H') iX)⟩
  | true =>
  have mY:(S.res α).scalar=true\/S.fr=true:=by
   have h2:((S.res α).scalar||(S.fr||!sU (first++c.args.toList.map (Vc.ev s)++cap)))=true:=mY
   rw [hl] at h2
   simpa using h2
  have OO:a_ η (bg s.b) (jH w) ((first++c.args.toList.map (Vc.ev s)++cap).map (view s.b)) (fs++c.args.toList.map a.eval++cs):=by
   have:∀(xs:List SV) (vs:List Value),a_ η (bg s.b) H xs vs->a_ η (bg s.b) (jH w) (xs.map (view s.b)) vs:=by
    intro xs
    induction xs with
    | nil=>intro vs h;simpa [a_] using h
    | cons c r ih =>
     intro vs h
     simp only [a_,lM] at h ⊢
     obtain ⟨u,us,h1,h2,h3⟩:=h
     exact ⟨u,us,h1,GJ (xw.world D) 4 c u h2,ih us h3⟩
   exact this _ _ om
  rcases mY with mY|nX
  ·refine fin α e9 hR (jH w) (Bv w) (lx _ _ (SS.lf α) (kC hle OO)) ?_
   intro H' w' v _ _ pR _ iX
   exact ⟨η,H,(D.grown pR).put o.dst (RY _ _ mY iX)⟩
  ·refine ⟨_,[],hR,λK Q hk=>?_⟩
   unfold Oper.wp
   rw [iW]
   refine (SS.fresh nX α e9 (jH w) (jH w) w _ (Bv w) (Bv w) (lx _ _ (SS.lf α) (kC hle OO))).mono λe w' ⟨v,N,he,g1,g2,g3,g4,g5,g6,g7,g8⟩=>?_
   subst he
   have pR:=MP g1 g6 g7 g8
   let G:bQ:=λb=>match H b with
    | some o=>some o
    | none=>N b
   have ar2:H.le G:=λb o hb=>by simp only [G];rw [hb]
   have dK:G.j6 w':=λb o hb=>by
    simp only [G] at hb
    split at hb
    ·rename_i o' ho;simp at hb;subst hb;exact g1 b _ (D.hw b _ ho)
    ·exact g3 b o hb
   have bw:∀b,G b≠none->H b≠none\/w.heap.size<=b:=λb hb=>by
    cases hq:H b with
    | some o=>exact .inl (by simp)
    | none =>
     right
     have:=(g4 b (by simpa only [G,hq] using hb)).1
     unfold jH at this
     simpa using this
   have Xh:N.le G:=λb o hb=>by
    have hn:=(g4 b (by rw [hb];simp)).1
    have:H b=none:=by
     cases hq:H b with
     | none=>rfl
     | some o'=>have:=D.hw b o' hq;unfold jH at hn;rw [this] at hn;cases hn
    simp only [G,this];exact hb
   exact hk η G w' v ((D.share pR ar2 dK bw).put o.dst (sJ.up Xh g5))
 ·obtain ⟨α,⟨hle,e9⟩,hR⟩:=h
  refine fin α e9 hR H D.hw (lx _ _ (SS.lf α) (kC hle om)) ?_
  intro H' w' v vT dK pR bw iX
  exact ⟨η,H',(D.share pR vT dK bw).put o.dst (sJ.up (bQ.le.refl H') iX)⟩
theorem JU (D:Den f s η H a w) {v:Value} {x:SV} (hr:∀w,(execOp a.eval o).run P w=.ok (.value v) w) (hx:rel η (bg s.b) H x v) (h:R x []):fS P f s o a w R:=eP D hr hx h
theorem SJ (C:X.Ok P) (D:Den f s η H a w) {l:Nat} (hl:gY o.op=true->s.b[l]?=some .un) (hd:uH o.op=true->o.dst=none)
  (h:(eL X s l o.op).K R):fS P f s o a w R:=by
 cases ho:o.op with
 | move x=>rw [ho] at h;exact adn D x (.inl ho) h
 | assign x=>rw [ho] at h;exact adn D x (.inr ho) h
 | pick c x y=>rw [ho] at h;exact aoZ D c x y ho h
 | alloc e =>
  rw [ho] at h hl
  simp only [eL] at h
  split at h
  ·rename_i i hi;exact anX C D (hl rfl) e ho hi h
  ·exact h.elim
 | box e x =>
  rw [ho] at h hl
  simp only [eL] at h
  split at h
  ·rename_i i cs hi hc;exact aqi C D (hl rfl) e x ho hc h
  ·exact h.elim
 | build t ps=>rw [ho] at h;exact anY C D t ps ho h
 | buildSlice t n ps=>rw [ho] at h hl;exact akV C D (hl rfl) t n ps ho h
 | load t x=>rw [ho] at h;exact ao1 C D t x ho h
 | store t x y=>rw [ho] at h;exact anU C D t x y ho (hd (by rw [ho];rfl)) h
 | nilCheck x =>
  rw [ho] at h
  simp only [eL] at h
  have hx:=D.ev x
  split at h<;>first|exact h.elim|skip
  ·rename_i l off e
   rw [e] at hx
   have:∃ad,a.eval x=.pointer (some ad):=by
    simp only [rel] at hx
    split at hx
    ·exact hx.elim
    ·exact hx
    ·obtain ⟨bl,_,h⟩:=hx;exact ⟨_,h⟩
   obtain ⟨ad,hp⟩:=this
   exact JU D (v:=a.eval x) (λw=>by simp [execOp,ho,hp]) hx h
  ·rename_i cs off e
   rw [e] at hx
   have:∃ad,a.eval x=.pointer (some ad):=by
    simp only [rel] at hx
    obtain ⟨ad,h,_⟩:=hx;exact ⟨_,h⟩
   obtain ⟨ad,hp⟩:=this
   exact JU D (v:=a.eval x) (λw=>by simp [execOp,ho,hp]) hx h
  ·rename_i fid fs cs e
   rw [e] at hx
   have:∃g1 g2,a.eval x=.func (.func fid) g1 g2:=by
    simp only [rel] at hx
    obtain ⟨g1,g2,h,_⟩:=hx;exact ⟨_,_,h⟩
   obtain ⟨g1,g2,hp⟩:=this
   exact JU D (v:=a.eval x) (λw=>by simp [execOp,ho,hp]) hx h
 | binOp op t x y t'=>rw [ho] at h;exact aqf C D op t t' x y ho h
 | unOp op t x=>rw [ho] at h;exact arS D op t x ho h
 | convert src dst x=>rw [ho] at h;exact ao0 C D src dst x ho h
 | makeFunc fn first cap =>
  rw [ho] at h
  refine JU D (v:=.func fn (first.map a.eval) (cap.map a.eval)) (λw=>by simp [execOp,ho,Instr.makeFunc]) ?_ h
  simp only [rel]
  refine ⟨first.toList.map a.eval,cap.toList.map a.eval,?_,D.Fi _,D.Fi _⟩
  congr 1<;>(apply oU;simp)
 | makeSlice t n m=>rw [ho] at h hl;exact ak6 C D (hl rfl) t n m ho h
 | slice t x lo hi mx =>
  rw [ho] at h hl
  exact an4 C D t x lo hi mx (λhm=>hl (by cases mx<;>simp [gY] at hm ⊢)) ho h
 | fieldAddr t x j=>rw [ho] at h;exact ak4 C D t x j ho h
 | field t x j=>rw [ho] at h;exact anW C D t x j ho h
 | indexAddr t x ix=>rw [ho] at h;exact ak5 C D t x ix ho h
 | index t x ix=>rw [ho] at h;exact anV C D t x ix ho h
 | makeMap t r =>
  rw [ho] at h hl
  cases r with
  | none=>exact al6 C D (hl rfl) t ho h
  | some r=>exact h.elim
 | lookup t x ix ok=>rw [ho] at h;exact amP C D t x ix ok ho h
 | mapUpdate t x ix y=>rw [ho] at h;exact ZD C D t x ix y (.inl ho) (hd (by rw [ho];rfl)) h
 | insert t x ix y=>rw [ho] at h;exact ZD C D t x ix y (.inr ho) (hd (by rw [ho];rfl)) h
 | range t x=>rw [ho] at h hl;exact an1 C D (hl rfl) t x ho h
 | entry x=>rw [ho] at h;exact an2 D x ho h
 | extract x j =>
  rw [ho] at h
  simp only [eL] at h
  have hx:=D.ev x
  split at h<;>first|exact h.elim|skip
  rename_i cs e
  split at h<;>first|exact h.elim|skip
  rename_i v hv
  rw [e] at hx
  simp only [rel] at hx
  obtain ⟨vs,h1,h2⟩:=hx
  obtain ⟨u,h3,h4⟩:=uF h2 j v hv
  exact JU D (v:=u) (λw=>by simp [execOp,ho,h1,Instr.extract,h3]) h4 h
 | call c =>
  rw [ho] at h hl
  simp only [eL] at h
  split at h<;>first|exact h.elim|skip
  ·rename_i g hg
   split at h<;>first|exact h.elim|skip
   rename_i fid first cap hv
   exact ao4 C D ho hg hv h
  ·rename_i bi hg
   obtain ⟨callee,args,argTypes⟩:=c
   simp only at hg h
   subst hg
   unfold BL at h
   split at h<;>first|exact h.elim|skip
   ·split at h<;>first|exact h.elim|skip
    rename_i t x e1 e2
    obtain ⟨x0,e3,rfl⟩:=af0 e2
    have uY:argTypes=#[t]:=by apply oU;simpa using e1
    have ny:args=#[x0]:=by apply oU;simpa using e3
    subst uY;subst ny
    exact aqj C D t x0 ho h
   ·split at h<;>first|exact h.elim|skip
    rename_i t t' x y e1 e2
    split at h
    ·rename_i ht
     subst ht
     obtain ⟨x0,y0,e3,rfl,rfl⟩:=Kx e2
     have uY:argTypes=#[t,t]:=by apply oU;simpa using e1
     have ny:args=#[x0,y0]:=by apply oU;simpa using e3
     subst uY;subst ny
     exact amO C D (hl rfl) t x0 y0 ho h
    ·obtain ⟨x0,y0,e3,rfl,rfl⟩:=Kx e2
     have uY:argTypes=#[t,t']:=by apply oU;simpa using e1
     have ny:args=#[x0,y0]:=by apply oU;simpa using e3
     subst uY;subst ny
     exact al7 C D (hl rfl) t t' x0 y0 ho h
   ·split at h<;>first|exact h.elim|skip
    rename_i t t' x y e1 e2
    split at h<;>first|exact h.elim|skip
    rename_i ht
    subst ht
    obtain ⟨x0,y0,e3,rfl,rfl⟩:=Kx e2
    have uY:argTypes=#[t,t]:=by apply oU;simpa using e1
    have ny:args=#[x0,y0]:=by apply oU;simpa using e3
    subst uY;subst ny
    exact ao2 C D t x0 y0 ho h
   ·split at h<;>first|exact h.elim|skip
    rename_i t x e1 e2
    obtain ⟨x0,e3,rfl⟩:=af0 e2
    have uY:argTypes=#[t]:=by apply oU;simpa using e1
    have ny:args=#[x0]:=by apply oU;simpa using e3
    subst uY;subst ny
    exact an3 C D t x0 ho h
   ·split at h<;>first|exact h.elim|skip
    rename_i x y e2
    obtain ⟨x0,y0,e3,rfl,rfl⟩:=Kx e2
    have ny:args=#[x0,y0]:=by apply oU;simpa using e3
    subst ny
    exact afX D .min min argTypes x0 y0 (.inl ⟨rfl,rfl⟩) ho h
    rename_i x y z e2
    obtain ⟨x0,y0,z0,e3,rfl,rfl,rfl⟩:=af1 e2
    have ny:args=#[x0,y0,z0]:=by apply oU;simpa using e3
    subst ny
    exact aev D .min min argTypes x0 y0 z0 (.inl ⟨rfl,rfl⟩) ho h
   ·split at h<;>first|exact h.elim|skip
    rename_i x y e2
    obtain ⟨x0,y0,e3,rfl,rfl⟩:=Kx e2
    have ny:args=#[x0,y0]:=by apply oU;simpa using e3
    subst ny
    exact afX D .max max argTypes x0 y0 (.inr ⟨rfl,rfl⟩) ho h
    rename_i x y z e2
    obtain ⟨x0,y0,z0,e3,rfl,rfl,rfl⟩:=af1 e2
    have ny:args=#[x0,y0,z0]:=by apply oU;simpa using e3
    subst ny
    exact aev D .max max argTypes x0 y0 z0 (.inr ⟨rfl,rfl⟩) ho h
 | _=>rw [ho] at h;exact h.elim
end
end Go.Vc
