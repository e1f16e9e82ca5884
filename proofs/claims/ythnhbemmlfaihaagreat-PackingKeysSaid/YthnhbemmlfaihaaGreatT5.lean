import Derived.Test.YthnhbemmlfaihaaGreatT4
set_option linter.unusedVariables false
set_option linter.unusedSimpArgs false
set_option maxRecDepth 10000
set_option maxHeartbeats 64000000
namespace Go.Vc
open Go
section
variable {P:Program} {X:Ctx} {f:Fr} {s:St} {η:Nat->Value} {H:bR} {a:Act} {w:World} {o:Oper} {R:SV->List (Nat × Slot)->Prop}
theorem J7 {q:Nat->Live} {lo:Option Operand} {m:Unit->Int} (D:Den f s η H a w) (h:lower (lo.map (Vc.ev s))=some m) :
  (lo=none/\m ()=0)\/∃x k,lo=some x/\a.eval x=.int k (m ()):=by
 cases lo with
 | none=>simp [lower] at h;subst h;exact .inl ⟨rfl,rfl⟩
 | some x =>
  simp only [yY,lower] at h
  split at h
  ·rename_i k n hn
   simp at h;subst h
   exact .inr ⟨x,k,rfl,pv hn (D.ev x)⟩
  ·cases h
theorem J8 {q:Nat->Live} {len:Unit->Nat} {hi:Option Operand} {m:Unit->Int} (D:Den f s η H a w) (h:bound len (hi.map (Vc.ev s))=some m) :
  (hi=none/\m ()=len ())\/∃x k,hi=some x/\a.eval x=.int k (m ()):=by
 cases hi with
 | none=>simp [bound] at h;subst h;exact .inl ⟨rfl,rfl⟩
 | some x =>
  simp only [yY,bound] at h
  split at h
  ·rename_i k n hn
   simp at h;subst h
   exact .inr ⟨x,k,rfl,pv hn (D.ev x)⟩
  ·cases h
theorem JC (b:Bool) (len cap:Nat) (lo hi:Option Value) (m n:Int) (fa:(lo=none/\m=0)\/∃k,lo=some (.int k m)) (gF:(hi=none/\n=len)\/∃k,hi=some (.int k n))
  (h0:0<=m) (h1:m<=n) (h2:n<=cap) (w:World):(Instr.sliceBounds b len cap lo hi none).run P w=.ok (m.toNat,n.toNat,cap) w:=by
 have hn:0<=n/\n<=(cap:Int):=by omega
 have hm:0<=m/\m<=(n.toNat:Int):=by omega
 rcases fa with ⟨rfl,rfl⟩|⟨k,rfl⟩<;>rcases gF with ⟨rfl,rfl⟩|⟨k',rfl⟩ <;>
  simp [Instr.sliceBounds,Instr.sliceBound,asIntOf,hn,hm]<;>(intro h;omega)
theorem acg (D:Den f s η H a w) {t e:TypeId} {x:Operand} {lo hi:Option Operand} {k:TI} (Kk:pz P e k) (cZ:P.underlying t=some (.slice e)) (ho:o.op=.slice t x lo hi none)
  {T:Type} {c:T->List SV} {xs:Unit->List T} (hx:rel η (bg s.b) H (.sl k.size c xs) (a.eval x)) {m n:Unit->Int} {ln:Unit->Nat} (mM:ln ()=(xs ()).length) (hm:lower (lo.map (Vc.ev s))=some m) (hn:bound ln (hi.map (Vc.ev s))=some n)
  (h0:0<=m ()) (h1:m ()<=n ()) (h2:n ()<=(xs ()).length) (hR:R (.sl k.size c λ_=>((xs ()).take (n ()).toNat).drop (m ()).toNat) []):ga P f s o a w R:=by
 simp only [rel] at hx
 obtain ⟨⟨ad,cap,h3,h4,h5⟩,dv⟩:=hx
 have fa:=J7 (q:=bg s.b) D hm
 have gF:=J8 (q:=bg s.b) D hn
 rw [mM] at gF
 have hb:=JC (P:=P) true (xs ()).length cap (lo.map a.eval) (hi.map a.eval) (m ()) (n ())
  (by
    rcases fa with ⟨rfl,h⟩|⟨y,k,rfl,h⟩
    ·exact .inl ⟨rfl,h⟩
    ·exact .inr ⟨k,by simp [h]⟩)
  (by
    rcases gF with ⟨rfl,h⟩|⟨y,k,rfl,h⟩
    ·exact .inl ⟨rfl,h⟩
    ·exact .inr ⟨k,by simp [h]⟩) h0 h1 (by omega)
 have hlen:(((xs ()).take (n ()).toNat).drop (m ()).toNat).length=(n ()).toNat - (m ()).toNat:=by simp;omega
 refine eR D (v:=.slice (if cap=(m ()).toNat then ad else ad.map (·.add ((m ()).toNat*k.size))) ((n ()).toNat - (m ()).toNat) (cap - (m ()).toNat)) (λw=>?_) ?_ hR
 ·simp only [execOp,ho,h3,Sem.run_bind,Instr.sliceAt,run_underlying cZ,Result.andThen_ok,Instr.slice,G0,hb,run_sizeOf Kk,Sem.run_pure]
 ·simp only [rel,hlen]
  refine ⟨⟨_,_,rfl,by omega,?_⟩,dv⟩
  by_cases hz:(n ()).toNat - (m ()).toNat=0
  ·left;exact m6 (by rw [hlen];exact hz)
  right
  rcases h5 with h5|⟨a0,rfl,iF,h6⟩
  ·rw [h5] at h2;simp at h2;omega
  refine ⟨a0.add ((m ()).toNat*k.size),?_,by rw [rA _ iF],λj y hy=>?_⟩
  ·rw [if_neg (by omega)];rfl
  ·rw [lK,s5] at hy
   split at hy
   ·obtain ⟨vals,g1,g2,g3⟩:=h6 _ y hy
    refine ⟨vals,g1,g2,?_⟩
    rw [rA _ iF]
    rw [show a0.off+(m ()).toNat*k.size+j*k.size=a0.off+((m ()).toNat+j)*k.size by rw [Nat.add_mul];omega]
    exact g3
   ·cases hy
theorem aph (C:X.Ok P) (D:Den f s η H a w) {l:Nat} (t:TypeId) (x:Operand) (lo hi mx:Option Operand) (hl:mx.isSome=true->s.b[l]?=some .un) (ho:o.op=.slice t x lo hi mx)
  (h:(Cx X s.b l t (Vc.ev s x) (lo.map (Vc.ev s)) (hi.map (Vc.ev s)) (mx.map (Vc.ev s))).K R):ga P f s o a w R:=by
 have hx:=D.ev x
 unfold Cx at h
 split at h<;>first|exact h.elim|skip
 rename_i i uB
 have I:=C.tt _ _ uB
 have cZ:=I.desc
 split at h<;>first|exact h.elim|skip
 ·rename_i e hd
  rw [hd] at cZ
  split at h<;>first|exact h.elim|skip
  rename_i k hk
  have Kk:=C.tt _ _ hk
  split at h
  ·rename_i hc
   simp only [er] at hc
   obtain ⟨lC,oS⟩:=hc
   split at h<;>first|exact h.elim|skip
   rename_i E hE
   have EE:=C.el _ _ hE
   have jm:Value.isSlice (a.eval x):=by
    cases hq:Vc.ev s x<;>rw [hq] at oS hx<;>simp [agZ] at oS<;>simp only [rel] at hx
    ·exact ⟨_,_,_,hx⟩
    ·split at hx
     ·exact hx.elim
     ·exact hx
     ·exact hx.2
    ·obtain ⟨ad,hx,_⟩:=hx;exact ⟨_,_,_,hx⟩
    ·obtain ⟨⟨ad,cap,hx,_⟩,_⟩:=hx;exact ⟨_,_,_,hx⟩
   obtain ⟨ad,n,cp,uC⟩:=jm
   have hb:∃y z k1 k2,lo=none/\hi=some y/\mx=some z/\a.eval y=.int k1 0/\a.eval z=.int k2 0:=by
    unfold clip at lC
    split at lC
    ·rename_i k1 k2 e1 e2 e3
     cases lo<;>simp at e1
     cases hi<;>simp at e2
     cases mx<;>simp at e3
     rename_i y z
     have hy:=D.ev y
     have hz:=D.ev z
     rw [e2] at hy;rw [e3] at hz
     simp only [rel] at hy hz
     exact ⟨y,z,_,_,rfl,rfl,rfl,hy,hz⟩
    ·cases lC
   obtain ⟨y,z,k1,k2,rfl,rfl,rfl,hy,hz⟩:=hb
   refine B7 D (hl rfl) (v:=.slice ad 0 0) (w':=w) ?_ (rz w none) (λb hb=>by cases ad<;>simp [dt] at hb) ⟨_,_,_,rfl⟩ ?_ h
   ·simp [execOp,ho,hy,hz,uC,Instr.sliceAt,run_underlying cZ,Instr.slice,Instr.sliceBounds,Instr.sliceBound,asIntOf,run_sizeOf Kk]
   ·exact ⟨[],.inr ⟨⟨ad,rfl⟩,rfl,rfl⟩,by simp [bd],by simp,EE.lf⟩
  ·split at h<;>first|exact h.elim|skip
   ·rename_i T sz c xs z ex em
    split at h<;>first|exact h.elim|skip
    rename_i ef
    subst ef
    split at h<;>first|exact h.elim|skip
    rename_i kn n kz m elo hn hz
    obtain ⟨⟨h1,h2⟩,hR⟩:=h
    obtain ⟨mz,rfl,emz⟩:∃mz,mx=some mz/\Vc.ev s mz=z:=by
     cases mx with
     | none=>cases em
     | some mz=>simp at em;exact ⟨mz,rfl,em⟩
    have atl:lo=none:=by cases lo<;>simp at elo;rfl
    subst atl
    rw [ex] at hx
    simp only [rel] at hx
    obtain ⟨⟨ad,cap,h3,h4,h5⟩,dv⟩:=hx
    obtain ⟨yh,rfl,hyh⟩:∃yh,hi=some yh/\(Vc.ev s yh).lQ=some (kn,n):=by
     cases hi with
     | none=>cases hn
     | some yh=>exact ⟨yh,rfl,by simpa using hn⟩
    have F3:=pv hyh (D.ev yh)
    have hmz:a.eval mz=.int kz (m ()):=pv (by rw [<-emz] at hz;exact hz) (D.ev mz)
    have hb:(Instr.sliceBounds true (xs ()).length cap none (some (a.eval yh)) (some (a.eval mz))).run P w=.ok (0,(xs ()).length,(xs ()).length) w:=by
     rw [hmz]
     have q1:0<=m ()/\m ()<=(cap:Int):=by omega
     have q2:(m ()).toNat=(xs ()).length:=by omega
     have q3:(n ()).toNat=(xs ()).length:=by omega
     have q4:0<=n ()/\n ()<=m ():=by omega
     have q5:((xs ()).length:Int)<=(cap:Int):=by omega
     rw [F3,h1,h2]
     simp [Instr.sliceBounds,Instr.sliceBound,asIntOf,q5]
    refine AJ D (v:=.slice (if (xs ()).length=0 then ad else ad.map (·.add (0*k.size))) (xs ()).length (xs ()).length) (w':=w) ?_ (rz w none) ?_ hR
    ·simp only [execOp,ho,h3,Sem.run_bind,Instr.sliceAt,run_underlying cZ,Result.andThen_ok,Instr.slice,G0,yY,hb,run_sizeOf Kk,Sem.run_pure,Nat.sub_zero]
    ·simp only [rel]
     refine ⟨⟨_,rfl,?_⟩,dv⟩
     rcases h5 with h5|⟨a0,rfl,iF,h6⟩
     ·exact .inl h5
     by_cases gz:xs ()=[]
     ·exact .inl gz
     right
     have:(xs ()).length≠0:=λe=>gz (m6 e)
     refine ⟨a0,?_,iF,h6⟩
     rw [if_neg this]
     simp [rA _ iF]
     cases a0;simp_all
   ·rename_i T sz c xs ex em
    split at h<;>first|exact h.elim|skip
    rename_i ef
    subst ef
    split at h<;>first|exact h.elim|skip
    rename_i m n hm hn
    obtain ⟨⟨h0,h1,h2⟩,hR⟩:=h
    have yl:mx=none:=by cases mx<;>simp at em;rfl
    subst yl
    rw [ex] at hx
    simp only [rel] at hx
    obtain ⟨⟨ad,cap,h3,h4,h5⟩,dv⟩:=hx
    exact acg D Kk cZ ho (by simp only [rel];exact ⟨⟨ad,cap,h3,h4,h5⟩,dv⟩) rfl hm hn h0 h1 h2 hR
   ·rename_i l0 ex em
    split at h<;>first|exact h.elim|skip
    rename_i T e' sz c xs hs
    split at h<;>first|exact h.elim|skip
    rename_i ef
    subst ef
    split at h<;>first|exact h.elim|skip
    rename_i m n hm hn
    obtain ⟨⟨h0,h1,h2⟩,hR⟩:=h
    have yl:mx=none:=by cases mx<;>simp at em;rfl
    subst yl
    rw [ex] at hx
    simp only [rel,df hs,Slot.live] at hx
    obtain ⟨vals,qh,h4,h5,mh⟩:=D.sl l0 _ hs
    obtain ⟨ad,cap,jm,Fq⟩:=qh.slice
    have fa:=J7 (q:=bg s.b) D hm
    have gF:=J8 (q:=bg s.b) D hn
    have hb:=JC (P:=P) true (xs ()).length cap (lo.map a.eval) (hi.map a.eval) (m ()) (n ())
     (by
       rcases fa with ⟨rfl,h⟩|⟨y,k,rfl,h⟩
       ·exact .inl ⟨rfl,h⟩
       ·exact .inr ⟨k,by simp [h]⟩)
     (by
       rcases gF with ⟨rfl,h⟩|⟨y,k,rfl,h⟩
       ·exact .inl ⟨rfl,h⟩
       ·exact .inr ⟨k,by simp [h]⟩) h0 h1 (by omega)
    have oR:a.eval x=.slice ad (xs ()).length cap:=hx.1.trans jm
    refine eR D (v:=.slice (if cap=(m ()).toNat then ad else ad.map (·.add ((m ()).toNat*k.size))) ((n ()).toNat - (m ()).toNat) (cap - (m ()).toNat)) (λw=>?_) ?_ hR
    ·simp only [execOp,ho,oR,Sem.run_bind,Instr.sliceAt,run_underlying cZ,Result.andThen_ok,Instr.slice,G0,hb,run_sizeOf Kk,Sem.run_pure]
    ·simp only [rel,df hs,Slot.live]
     refine ⟨ad,_,cap,jm,by omega,by omega,_,_,rfl,by omega,λaR=>?_,λh=>⟨by rw [h];split<;>cases ad<;>simp [Addr.add],by omega⟩⟩
     have h3:=qh.pos (show 0 < (xs ()).length by omega)
     rcases h3.2 with ⟨ot,_⟩|⟨g,vl,cur,hg,_,_,_⟩
     ·rw [jm] at ot;simp at ot;omega
     ·rw [jm] at hg;simp at hg
      refine ⟨g,hg.1,?_⟩
      rw [if_neg (by omega),hg.1]
      simp [vb]
   ·rename_i l0 sz g h' ex em
    split at h<;>first|exact h.elim|skip
    rename_i T e' lA c xs hs
    split at h<;>first|exact h.elim|skip
    rename_i ef
    subst ef
    split at h<;>first|exact h.elim|skip
    rename_i m n hm hn
    obtain ⟨⟨h0,h1,h2⟩,hR⟩:=h
    have yl:mx=none:=by cases mx<;>simp at em;rfl
    subst yl
    rw [ex] at hx
    simp only [rel,df hs,Slot.live] at hx
    obtain ⟨ad,nn,c0,p1,p2,p3,nM,cap,oR,p5,p6,p7⟩:=hx
    have fa:=J7 (q:=bg s.b) D hm
    have gF:=J8 (q:=bg s.b) D hn
    have hb:=JC (P:=P) true (h' () - g ()) cap (lo.map a.eval) (hi.map a.eval) (m ()) (n ())
     (by
       rcases fa with ⟨rfl,h⟩|⟨y,k,rfl,h⟩
       ·exact .inl ⟨rfl,h⟩
       ·exact .inr ⟨k,by simp [h]⟩)
     (by
       rcases gF with ⟨rfl,h⟩|⟨y,k,rfl,h⟩
       ·exact .inl ⟨rfl,h⟩
       ·exact .inr ⟨k,by simp [h]⟩) h0 h1 (by omega)
    refine eR D (v:=.slice (if cap=(m ()).toNat then nM else nM.map (·.add ((m ()).toNat*k.size))) ((n ()).toNat - (m ()).toNat) (cap - (m ()).toNat)) (λw=>?_) ?_ hR
    ·simp only [execOp,ho,oR,Sem.run_bind,Instr.sliceAt,run_underlying cZ,Result.andThen_ok,Instr.slice,G0,hb,run_sizeOf Kk,Sem.run_pure]
    ·simp only [rel,df hs,Slot.live]
     refine ⟨ad,nn,c0,p1,by omega,by omega,_,_,by rw [show g ()+(n ()).toNat - (g ()+(m ()).toNat)=(n ()).toNat - (m ()).toNat by omega],by omega,λaR=>?_,λh=>⟨by rw [show (m ()).toNat=0 by omega,<-(p7 (by omega)).1];split<;>cases nM<;>simp [Addr.add],by rw [<-(p7 (by omega)).2];omega⟩⟩
     obtain ⟨bl,q1,q2⟩:=p6 (by omega)
     refine ⟨bl,q1,?_⟩
     rw [if_neg (by omega),q2]
     simp [vb,Nat.add_mul]
   ·rename_i cs n ex em
    split at h<;>first|exact h.elim|skip
    rename_i E hE
    have EE:=C.el _ _ hE
    split at h<;>first|exact h.elim|skip
    rename_i m n' hm hn
    obtain ⟨l,⟨qj,vw,h0,h1,h2⟩,hR⟩:=h
    have yl:mx=none:=by cases mx<;>simp at em;rfl
    subst yl
    rw [ex] at hx
    have vx:=wg (Le.eL (c:=E.c) (ys:=λ_=>l) qj (λy _=>EE.len k hk y) (λx=>(EE.lf x).1) vw) hx
    exact acg D Kk cZ ho vx qj.symm hm hn h0 h1 (by omega) hR
 ·rename_i hd
  rw [hd] at cZ
  split at h<;>first|exact h.elim|skip
  rename_i y ex em
  split at h<;>first|exact h.elim|skip
  rename_i m n hm hn
  obtain ⟨⟨h0,h1,h2⟩,hR⟩:=h
  have yl:mx=none:=by cases mx<;>simp at em;rfl
  subst yl
  rw [ex] at hx
  simp only [rel] at hx
  have fa:=J7 (q:=bg s.b) D hm
  have gF:=J8 (q:=bg s.b) D hn
  have hb:=JC (P:=P) false (y ()).size (y ()).size (lo.map a.eval) (hi.map a.eval) (m ()) (n ())
    (by
      rcases fa with ⟨rfl,h⟩|⟨y,k,rfl,h⟩
      ·exact .inl ⟨rfl,h⟩
      ·exact .inr ⟨k,by simp [h]⟩)
    (by
      rcases gF with ⟨rfl,h⟩|⟨y,k,rfl,h⟩
      ·exact .inl ⟨rfl,h⟩
      ·exact .inr ⟨k,by simp [h]⟩) h0 h1 (by omega)
  refine eR D (v:=.string ((y ()).extract (m ()).toNat (n ()).toNat)) (λw=>?_) (by simp only [rel]) hR
  simp [execOp,ho,hx,Instr.sliceAt,run_underlying cZ,Instr.slice,hb]
 ·rename_i n e hd
  rw [hd] at cZ
  split at h<;>first|exact h.elim|skip
  rename_i k E hk hE
  have Kk:=C.tt _ _ hk
  have EE:=C.el _ _ hE
  split at h<;>first|exact h.elim|skip
  rename_i cs off ex em
  split at h<;>first|exact h.elim|skip
  rename_i m hh hm hn
  obtain ⟨l,⟨qj,vw,h0,h1,h2⟩,hR⟩:=h
  have yl:mx=none:=by cases mx<;>simp at em;rfl
  subst yl
  rw [ex] at hx
  simp only [rel] at hx
  obtain ⟨a0,hv,vals,od,Kx⟩:=hx
  have fa:=J7 (q:=bg s.b) D hm
  have gF:=J8 (q:=bg s.b) D hn
  have hb:=JC (P:=P) false n n (lo.map a.eval) (hi.map a.eval) (m ()) (hh ())
    (by
      rcases fa with ⟨rfl,h⟩|⟨y,k,rfl,h⟩
      ·exact .inl ⟨rfl,h⟩
      ·exact .inr ⟨k,by simp [h]⟩)
    (by
      rcases gF with ⟨rfl,h⟩|⟨y,k,rfl,h⟩
      ·exact .inl ⟨rfl,h⟩
      ·exact .inr ⟨k,by simp [h]⟩) h0 h1 (by omega)
  have hlen:((l.take (hh ()).toNat).drop (m ()).toNat).length=(hh ()).toNat - (m ()).toNat:=by simp;omega
  have sM:=kP vw (G7 (G6 od off) (n*k.size))
  refine eR D (v:=.slice (some (if n=(m ()).toNat then ⟨a0.block,a0.off+off,none⟩ else (⟨a0.block,a0.off+off,none⟩:Addr).add ((m ()).toNat*k.size))) ((hh ()).toNat - (m ()).toNat) (n - (m ()).toNat)) (λw=>?_) ?_ hR
  ·simp only [execOp,ho,hv,Sem.run_bind,Instr.sliceAt,run_underlying cZ,Result.andThen_ok,Instr.sureAddr,G0,hb,run_sizeOf Kk,Sem.run_pure]
  ·simp only [rel,hlen]
   refine ⟨⟨_,_,rfl,by omega,?_⟩,λx=>(EE.lf x).1⟩
   by_cases hz:(hh ()).toNat - (m ()).toNat=0
   ·left;exact m6 (by rw [hlen];exact hz)
   right
   refine ⟨_,rfl,?_,λj y hy=>?_⟩
   ·rw [if_neg (by omega),rA _ rfl]
   ·rw [lK,s5] at hy
    split at hy
    ·have g:=Eh (λx _=>EE.len k hk x) sM _ y hy
     refine ⟨_,?_,g,?_⟩
     ·rw [jZ g];exact EE.len k hk y
     ·rw [if_neg (by omega),rA _ rfl]
      intro i u hu
      rw [s5] at hu
      split at hu
      ·rw [lK,s5] at hu
       split at hu
       ·rw [lK] at hu
        have:=Kx _ u hu
        rw [show a0.off+off+(m ()).toNat*k.size+j*k.size+i=a0.off+(off+(((m ()).toNat+j)*k.size+i)) by rw [Nat.add_mul];omega]
        exact this
       ·cases hu
      ·cases hu
    ·cases hy
theorem ag5 {α:Type} {β:Type 1} {f:α->β} {l:List α} {x:β} (h:l.map f=[x]):∃a,l=[a]/\f a=x:=by
 match l,h with
 | [a],h=>simp at h;exact ⟨a,rfl,h⟩
theorem Lj {α:Type} {β:Type 1} {f:α->β} {l:List α} {x y:β} (h:l.map f=[x,y]):∃a b,l=[a,b]/\f a=x/\f b=y:=by
 match l,h with
 | [a,b],h=>simp at h;exact ⟨a,b,rfl,h.1,h.2⟩
theorem ag6 {α:Type} {β:Type 1} {f:α->β} {l:List α} {x y z:β} (h:l.map f=[x,y,z]):∃a b c,l=[a,b,c]/\f a=x/\f b=y/\f c=z:=by
 match l,h with
 | [a,b,c],h=>simp at h;exact ⟨a,b,c,rfl,h.1,h.2.1,h.2.2⟩
def jQ (w:World):bR:=λb=>w.heap[b]?
theorem B6 (w:World):(jQ w).kj w:=λb o h=>h
theorem amj {b o:Nat} {u:Value} (h:w.cell? ⟨b,o,none⟩=some u):td (jQ w) b o=some u:=by
 unfold World.cell? at h
 unfold td jQ
 split at h
 ·rename_i c e fz he
  simp at he
  simp [he] at h ⊢
  exact h
 ·cases h
structure xX (D:Den f s η H a w) (G:bR):Prop where
 le:H.le G
 own:∀l b,bg s.b l=.live->dt (η l)=some b->G b=w.heap[b]?
theorem xX.world (D:Den f s η H a w):xX D (jQ w):=⟨D.hw,λ_ _ _ _=>rfl⟩
theorem ach (D:Den f s η H a w) {G:bR} {l:Nat} {T:Type} {e:TypeId} {sz:Nat} {c:T->List SV} {xs:Unit->List T} (hs:s.b[l]?=some (.dyn e sz c xs)) (hle:H.le G) (qS:∀b,dt (η l)=some b->G b=w.heap[b]?) :
  rel η (bg s.b) G (.sl sz c xs) (η l):=by
 obtain ⟨vals,qh,h4,h5,mh⟩:=D.sl l _ hs
 have dZ:bg s.b l=.live:=by rw [df hs];rfl
 simp only [rel]
 refine ⟨?_,λx=>(mh x).1⟩
 obtain ⟨ad,cp,jm,F2⟩:=qh.slice
 refine ⟨ad,cp,jm,F2,?_⟩
 by_cases hn:xs ()=[]
 ·exact .inl hn
 right
 have xW:0 < (xs ()).length:=by cases hq:xs () with|nil=>exact absurd hq hn|cons=>simp
 have h3:=qh.pos xW
 rcases h3.2 with ⟨hz,F4⟩|⟨g,vl,cur,hg,_,oQ,A3,wO,lB,wq⟩
 ·omega
 rw [hg] at jm
 simp at jm
 refine ⟨⟨g,0,none⟩,jm.1.symm,rfl,λj x hx=>?_⟩
 have h6:=Eh h5 h4 j x hx
 refine ⟨_,?_,eB.up hle h6,λk u hu=>?_⟩
 ·rw [jZ h6];exact h5 x (cb hx)
 ·rw [s5] at hu
  split at hu
  ·rw [lK] at hu
   have hG:=qS g (by rw [hg];simp only [dt];rw [if_neg (by omega)])
   have hc:=h3.cells (g:=g) (by rw [hg];rfl) _ u hu
   rw [vb,cell_of_row w g _ cur e (0,0) oQ] at hc
   simp only [td,hG,oQ,s6]
   simpa using hc
  ·cases hu
theorem aci {D:Den f s η H a w} {G:bR} (S:xX D G) {l:Nat} {T:Type} {e:TypeId} {sz:Nat} {c:T->List SV} {xs:Unit->List T} (hs:s.b[l]?=some (.dyn e sz c xs)) :
 rel η (bg s.b) G (.sl sz c xs) (η l):=ach D hs S.le (λb hb=>S.own l b (by rw [df hs];rfl) hb)
theorem api {q:Nat->Live} {G:bR} {T:Type} {sz:Nat} {c:T->List SV} {xs:Unit->List T} {o v:Value} {m n:Nat} (h:rel η q G (.sl sz c xs) o) (hp:Hz o sz m n v) :
  rel η q G (.sl sz c λ_=>((xs ()).take n).drop m) v:=by
 simp only [rel] at h ⊢
 obtain ⟨⟨ad,cap,rfl,h2,h3⟩,dv⟩:=h
 refine ⟨?_,dv⟩
 obtain ⟨ad0,nn,c0,h4,h5,h6,nM,c',rfl,h8,h9,_⟩:=hp
 simp at h4
 obtain ⟨rfl,rfl,rfl⟩:=h4
 have hlen:(((xs ()).take n).drop m).length=n - m:=by simp;omega
 refine ⟨nM,c',by rw [hlen],by rw [hlen];exact h8,?_⟩
 by_cases FZ:m < n
 ·right
  obtain ⟨bl,rfl,rfl⟩:=h9 FZ
  rcases h3 with h3|⟨a0,F1,iF,sx⟩
  ·rw [h3] at h6;simp at h6;omega
  ·simp at F1;subst F1
   refine ⟨_,rfl,rfl,λj x hx=>?_⟩
   rw [lK,s5] at hx
   split at hx
   ·obtain ⟨vals,g1,g2,g3⟩:=sx _ x hx
    refine ⟨vals,g1,g2,λk u hu=>?_⟩
    rw [<-g3 k u hu]
    congr 1
    rw [Nat.add_mul];simp only;omega
   ·cases hx
 ·left
  exact m6 (by rw [hlen];omega)
theorem an5 {D:Den f s η H a w} {G:bR} (S:xX D G) {l:Nat} {e:TypeId} {cs:List SV} (hs:s.b[l]?=some (.fix e cs)) :
  ∃bl vs,η l=.pointer (some ⟨bl,0,none⟩)/\EB G bl 0 vs/\bd η (bg s.b) H cs vs:=by
 obtain ⟨bl,vs,h3,h4,h5⟩:=D.sl l _ hs
 have hG:=S.own l bl (by rw [df hs];rfl) (by rw [h3];rfl)
 refine ⟨bl,vs.toList,h3,λj u hu=>?_,h5⟩
 simp only [td,hG,h4]
 simpa using hu
theorem Hp {D:Den f s η H a w} {G:bR} (S:xX D G):∀(n:Nat) (x:SV) (v:Value),rel η (bg s.b) H x v->rel η (bg s.b) G (jT s.b n x) v
 | 0,x,v,h=>xH (jJ.refl _ _) S.le x v h
 | n+1,x,v,h=>by
  have up:∀{y:SV} {v:Value},rel η (bg s.b) H y v->rel η (bg s.b) G y v:=λ{y v} h=>xH (jJ.refl _ _) S.le y v h
  have map:∀(cs:List SV) (vs:List Value),bd η (bg s.b) H cs vs->bd η (bg s.b) G (cs.map (jT s.b n)) vs:=by
   intro cs
   induction cs with
   | nil=>intro vs h;simpa [bd] using h
   | cons c r ih =>
    intro vs h
    simp only [bd,lY] at h ⊢
    obtain ⟨u,us,h1,h2,h3⟩:=h
    exact ⟨u,us,h1,Hp S n c u h2,ih us h3⟩
  cases x with
  | own l =>
   simp only [jT]
   split
   ·rename_i T e sz c xs hs
    simp only [rel,df hs,Slot.live] at h
    rw [h.1]
    exact aci S hs
   ·exact up h
  | gD l sz m k =>
   simp only [jT]
   split
   ·rename_i T e lA c xs hs
    split
    ·rename_i ef
     obtain rfl:=pe ef
     simp only [rel,df hs,Slot.live] at h
     exact api (aci S hs) h
    ·exact up h
   ·exact up h
  | ptr l off =>
   simp only [jT]
   split
   ·rename_i e cs hs
    simp only [rel,df hs,Slot.live] at h
    obtain ⟨bl,h1,h2⟩:=h
    obtain ⟨mf,vs,h3,h4,h5⟩:=an5 S hs
    rw [h1] at h3
    simp at h3;subst h3
    simp only [rel]
    exact ⟨⟨bl,0,none⟩,by rw [h2];simp,vs,map _ _ h5,h4⟩
   ·exact up h
  | e9 l =>
   simp only [jT]
   split
   ·rename_i T k c m hs
    simp only [rel,df hs,Slot.live] at h
    obtain ⟨r,es,clock,h3,h4,hM,dv⟩:=D.sl l _ hs
    have hG:=S.own l r (by rw [df hs];rfl) (by rw [h3];rfl)
    simp only [rel]
    exact ⟨.inr ⟨r,es,clock,h.1.trans h3,by rw [hG];exact h4,hM.mono λt u hu=>eB.up S.le hu⟩,dv⟩
   ·exact up h
  | fn f xs ys =>
   simp only [jT]
   simp only [rel] at h ⊢
   obtain ⟨fs,cs,h1,h2,h3⟩:=h
   exact ⟨fs,cs,h1,map _ _ h2,map _ _ h3⟩
  | agg cs =>
   simp only [jT]
   simp only [rel] at h ⊢
   obtain ⟨vs,h1,h2⟩:=h
   exact ⟨vs,h1,map _ _ h2⟩
  | dH cs =>
   simp only [jT]
   simp only [rel] at h ⊢
   obtain ⟨vs,h1,h2⟩:=h
   exact ⟨vs,h1,map _ _ h2⟩
  | _=>simp only [jT];exact up h
mutual
theorem SR {η η':Nat->Value} {q q':Nat->Live} {H H':bR}:∀(x:SV) (v:Value),x.scalar=true->rel η q H x v->rel η' q' H' x v
 | .bc c,v,_,h=>by simpa [rel] using h
 | .b x,v,_,h=>by simpa [rel] using h
 | .nb d p,v,l,_=>by simp [SV.scalar] at l
 | .ic k n,v,_,h=>by simpa [rel] using h
 | .i k n,v,_,h=>by simpa [rel] using h
 | .str x,v,_,h=>by simpa [rel] using h
 | .agg cs,v,l,h=>by
  simp only [rel,SV.scalar] at h l ⊢
  obtain ⟨vs,h1,h2⟩:=h
  exact ⟨vs,h1,NH cs vs l h2⟩
 | .dH cs,v,l,h=>by
  simp only [rel,SV.scalar] at h l ⊢
  obtain ⟨vs,h1,h2⟩:=h
  exact ⟨vs,h1,NH cs vs l h2⟩
 | .any,_,l,_=>by simp [SV.scalar] at l
 | .cell,_,l,_=>by simp [SV.scalar] at l
 | .v x,v,l,_=>by simp [SV.scalar] at l
 | .dp,v,l,_=>by simp [SV.scalar] at l
 | .ptr _ off,v,l,h=>by simp [SV.scalar] at l
 | .ik _ sz i off,v,l,h=>by simp [SV.scalar] at l
 | .own _,v,l,h=>by simp [SV.scalar] at l
 | .gD _ _ _ _,v,l,h=>by simp [SV.scalar] at l
 | .eL cs n,v,l,h=>by simp [SV.scalar] at l
 | .sl sz c xs,v,l,h=>by simp [SV.scalar] at l
 | .dF cs off,v,l,h=>by simp [SV.scalar] at l
 | .fn f first cap,v,l,h=>by simp [SV.scalar] at l
 | .om t x,v,l,h=>by simp [SV.scalar] at l
 | .iB sz c xs,v,l,h=>by simp [SV.scalar] at l
 | .mp k c m,v,l,h=>by simp [SV.scalar] at l
 | .opt p x,v,l,h=>by simp [SV.scalar] at l
 | .e9 _,v,l,h=>by simp [SV.scalar] at l
 | .iC _,v,l,h=>by simp [SV.scalar] at l
theorem NH {η η':Nat->Value} {q q':Nat->Live} {H H':bR}:∀(x:List SV) (v:List Value),Hn x=true->bd η q H x v->bd η' q' H' x v
 | [],v,_,h=>by simpa [bd] using h
 | s :: r,v,l,h=>by
  simp only [bd,Hn,er] at h l ⊢
  obtain ⟨x,xs,h1,h2,h3⟩:=h
  exact ⟨x,xs,h1,SR s x l.1 h2,NH r xs l.2 h3⟩
end
theorem aak {fid:FuncId} {fn:Func} (F:oa P fid fn) (args:Array Value) (w:World):(callFunc fid args).run P w=.ok (.enter fid args) w:=by
 have h:=F.body
 cases hb:fn.body with
 | none=>rw [hb] at h;cases h
 | some c =>
  have hn : ¬ fn.name = "runtime.NumGoroutine" := by simpa using F.name
  simp [callFunc,F.get,hn,hb]
theorem abl {c:Call} {g:Operand} {fid:FuncId} {fn:Func} (F:oa P fid fn) (ho:o.op=.call c) (hg:c.callee=.value g) {fs cs:List Value} (hv:a.eval g=.func (.func fid) fs.toArray cs.toArray) (w:World) :
  (execOp a.eval o).run P w=.ok (.enter fid (fs++c.args.toList.map a.eval++cs).toArray) w:=by
 unfold execOp
 simp only [ho,resolve,hg,hv,Deferred.ofValue,Sem.run_bind,Sem.run_pure,Result.andThen_ok,invoke]
 have:(fs.toArray++Array.map a.eval c.args++cs.toArray)=(fs++c.args.toList.map a.eval++cs).toArray:=by
  apply pj
  simp
 rw [this]
 exact aak F _ w
theorem Nw {w w':World} (h:(jQ w).kj w') (h1:w'.os=w.os) (h2:w'.tape=w.tape) (h3:w'.output=w.output):w.grownBy w' none:=by
 refine ⟨h1,h2,h3,?_,λb hb _=>?_⟩
 ·by_cases hs:w.heap.size=0
  ·omega
  ·have:=h (w.heap.size - 1) w.heap[w.heap.size - 1] (by simp [jQ])
   have:=(js.1 this).1
   omega
 ·have:=h b w.heap[b] (by simp [jQ,hb])
  rw [this]
  simp [hb]
theorem adm (b:List Slot):∀(n:Nat) (x:SV),x.lb=false->jT b n x=x
 | 0,x,_=>rfl
 | n+1,x,h=>by
  have map:∀(cs:List SV),tz cs=false->cs.map (jT b n)=cs:=by
   intro cs
   induction cs with
   | nil=>intro _;rfl
   | cons c r ih =>
    intro h
    simp only [tz,u6] at h
    rw [lY,adm b n c h.1,ih h.2]
  cases x<;>simp only [SV.lb] at h<;>first|(cases h;done)|rfl|(simp only [jT];rw [map _ h];done)|(simp only [u6] at h;simp only [jT];rw [map _ h.1,map _ h.2])
theorem T0 (b:List Slot):∀(xs:List SV),tz xs=false->xs.map (view b)=xs
 | [],_=>rfl
 | x :: r,h=>by
  simp only [tz,u6] at h
  rw [lY,T0 b r h.2]
  exact congrArg (· :: r) (adm b 4 x h.1)
mutual
theorem anj {q:Nat->Live}:∀(x:SV) (v:Value),rel η q H x v->rel η q H (lq x) v
 | .ptr ..,v,h=>by simp only [lq];show v.oneCell'=true;exact AQ rfl h
 | .ik ..,v,h=>by simp only [lq];show v.oneCell'=true;exact AQ rfl h
 | .own _,v,h=>by simp only [lq];show v.oneCell'=true;exact AQ rfl h
 | .gD ..,v,h=>by simp only [lq];show v.oneCell'=true;exact AQ rfl h
 | .e9 _,v,h=>by simp only [lq];show v.oneCell'=true;exact AQ rfl h
 | .iC _,v,h=>by simp only [lq];show v.oneCell'=true;exact AQ rfl h
 | .agg cs,v,h=>by
  simp only [lq,rel] at h ⊢
  obtain ⟨vs,h1,h2⟩:=h
  exact ⟨vs,h1,Ej cs vs h2⟩
 | .dH cs,v,h=>by
  simp only [lq,rel] at h ⊢
  obtain ⟨vs,h1,h2⟩:=h
  exact ⟨vs,h1,Ej cs vs h2⟩
 | .fn f xs ys,v,h=>by
  simp only [lq,rel] at h ⊢
  obtain ⟨fs,cs,h1,h2,h3⟩:=h
  exact ⟨fs,cs,h1,Ej xs fs h2,Ej ys cs h3⟩
 | .any,v,h=>by simp only [lq];exact h
 | .cell,v,h=>by simp only [lq];exact h
 | .bc _,v,h=>by simp only [lq];exact h
 | .b _,v,h=>by simp only [lq];exact h
 | .nb _ _,v,h=>by simp only [lq];exact h
 | .ic _ _,v,h=>by simp only [lq];exact h
 | .i _ _,v,h=>by simp only [lq];exact h
 | .str _,v,h=>by simp only [lq];exact h
 | .v _,v,h=>by simp only [lq];exact h
 | .dp,v,h=>by simp only [lq];exact h
 | .eL _ _,v,h=>by simp only [lq];exact h
 | .sl _ _ _,v,h=>by simp only [lq];exact h
 | .iB _ _ _,v,h=>by simp only [lq];exact h
 | .dF _ _,v,h=>by simp only [lq];exact h
 | .om _ _,v,h=>by simp only [lq];exact h
 | .mp _ _ _,v,h=>by simp only [lq];exact h
 | .opt _ _,v,h=>by simp only [lq];exact h
theorem Ej {q:Nat->Live}:∀(x:List SV) (v:List Value),bd η q H x v->bd η q H (zb x) v
 | [],v,h=>h
 | x :: r,v,h=>by
  simp only [zb,bd] at h ⊢
  obtain ⟨u,us,h1,h2,h3⟩:=h
  exact ⟨u,us,h1,anj x u h2,Ej r us h3⟩
end
theorem aqj (C:X.Ok P) (D:Den f s η H a w) {c:Call} {g:Operand} {fid:FuncId} {first cap:List SV} (ho:o.op=.call c) (hg:c.callee=.value g) (hv:Vc.ev s g=.fn (.func fid) first cap)
  (h:(HK X s.b fid (first++c.args.toList.map (Vc.ev s)++cap)).K R):ga P f s o a w R:=by
 have sN:=D.ev g
 rw [hv] at sN
 simp only [rel] at sN
 obtain ⟨fs,cs,h1,h2,h3⟩:=sN
 have oF:bd η (bg s.b) H (first++c.args.toList.map (Vc.ev s)++cap) (fs++c.args.toList.map a.eval++cs):=jG (jG h2 (D.FW _)) h3
 unfold HK at h
 split at h<;>first|exact h.elim|skip
 rename_i S hS
 have SS:=C.sp _ _ hS
 obtain ⟨fn,F⟩:=SS.fn
 have je:=abl F ho hg h1 w
 have fin:∀(α:S.α),S.pre α->R (S.res α) []->∀(Hc:bR),Hc.kj w->eB Hc (S.args α) (fs++c.args.toList.map a.eval++cs) ->
   (∀H' w' v,Hc.le H'->H'.kj w'->w.grownBy w' none->(∀b,H' b≠none->Hc b≠none\/w.heap.size<=b)->tg H' (S.res α) v->∃η' H2,Den f (s.gq o.dst (S.res α) []) η' H2 (a.put o.dst v) w')->ga P f s o a w R:=by
  intro α fe hR Hc dN od rO
  refine ⟨_,[],hR,λK Q hk=>?_⟩
  unfold Oper.wp
  rw [je]
  refine (SS.run α fe Hc (jQ w) w _ dN (B6 w) od).mono λe w' ⟨v,H',he,g1,g2,g3,g4,g5,g6,g7,g8⟩=>?_
  subst he
  have qm:=Nw g3 g6 g7 g8
  obtain ⟨η',H2,D'⟩:=rO H' w' v g1 g2 qm (λb hb=>by
   rcases g4 b hb with h|h
   ·exact .inl h
   ·right
    unfold jQ at h
    simpa using h) g5
  exact hk η' H2 w' v D'
 split at h
 ·obtain ⟨α,⟨⟨hle,nr⟩|hle,fe⟩,hR⟩:=h
  case inr =>
   refine fin α fe hR H D.hw (lL _ _ (SS.lf α) (kP hle (Ej _ _ oF))) ?_
   intro H' w' v wD dN qm bA jf
   exact ⟨η,H',(D.share qm wD dN bA).put o.dst (tg.up (bR.le.refl H') jf)⟩
  cases hl:tz (first++c.args.toList.map (Vc.ev s)++cap) with
  | false =>
   rw [T0 s.b _ hl] at hle
   refine fin α fe hR H D.hw (lL _ _ (SS.lf α) (kP hle oF)) ?_
   intro H' w' v wD dN qm bA jf
   exact ⟨η,H',(D.share qm wD dN bA).put o.dst (tg.up (bR.le.refl H') jf)⟩
  | true =>
  have nr:(S.res α).scalar=true\/S.fr=true:=by
   have h2:((S.res α).scalar||(S.fr||!tz (first++c.args.toList.map (Vc.ev s)++cap)))=true:=nr
   rw [hl] at h2
   simpa using h2
  have Pz:bd η (bg s.b) (jQ w) ((first++c.args.toList.map (Vc.ev s)++cap).map (view s.b)) (fs++c.args.toList.map a.eval++cs):=by
   have:∀(xs:List SV) (vs:List Value),bd η (bg s.b) H xs vs->bd η (bg s.b) (jQ w) (xs.map (view s.b)) vs:=by
    intro xs
    induction xs with
    | nil=>intro vs h;simpa [bd] using h
    | cons c r ih =>
     intro vs h
     simp only [bd,lY] at h ⊢
     obtain ⟨u,us,h1,h2,h3⟩:=h
     exact ⟨u,us,h1,Hp (xX.world D) 4 c u h2,ih us h3⟩
   exact this _ _ oF
  rcases nr with nr|ou
  ·refine fin α fe hR (jQ w) (B6 w) (lL _ _ (SS.lf α) (kP hle Pz)) ?_
   intro H' w' v _ _ qm _ jf
   exact ⟨η,H,(D.grown qm).put o.dst (SR _ _ nr jf)⟩
  ·refine ⟨_,[],hR,λK Q hk=>?_⟩
   unfold Oper.wp
   rw [je]
   refine (SS.fresh ou α fe (jQ w) (jQ w) w _ (B6 w) (B6 w) (lL _ _ (SS.lf α) (kP hle Pz))).mono λe w' ⟨v,N,he,g1,g2,g3,g4,g5,g6,g7,g8⟩=>?_
   subst he
   have qm:=Nw g1 g6 g7 g8
   let G:bR:=λb=>match H b with
    | some o=>some o
    | none=>N b
   have atm:H.le G:=λb o hb=>by simp only [G];rw [hb]
   have dN:G.kj w':=λb o hb=>by
    simp only [G] at hb
    split at hb
    ·rename_i o' ho;simp at hb;subst hb;exact g1 b _ (D.hw b _ ho)
    ·exact g3 b o hb
   have bA:∀b,G b≠none->H b≠none\/w.heap.size<=b:=λb hb=>by
    cases hq:H b with
    | some o=>exact .inl (by simp)
    | none =>
     right
     have:=(g4 b (by simpa only [G,hq] using hb)).1
     unfold jQ at this
     simpa using this
   have Yc:N.le G:=λb o hb=>by
    have hn:=(g4 b (by rw [hb];simp)).1
    have:H b=none:=by
     cases hq:H b with
     | none=>rfl
     | some o'=>have:=D.hw b o' hq;unfold jQ at hn;rw [this] at hn;cases hn
    simp only [G,this];exact hb
   exact hk η G w' v ((D.share qm atm dN bA).put o.dst (tg.up Yc g5))
 ·obtain ⟨α,⟨hle,fe⟩,hR⟩:=h
  refine fin α fe hR H D.hw (lL _ _ (SS.lf α) (kP hle oF)) ?_
  intro H' w' v wD dN qm bA jf
  exact ⟨η,H',(D.share qm wD dN bA).put o.dst (tg.up (bR.le.refl H') jf)⟩
theorem Ky (D:Den f s η H a w) {v:Value} {x:SV} (hr:∀w,(execOp a.eval o).run P w=.ok (.value v) w) (hx:rel η (bg s.b) H x v) (h:R x []):ga P f s o a w R:=eR D hr hx h
theorem TJ (C:X.Ok P) (D:Den f s η H a w) {l:Nat} (hl:ij o.op=true->s.b[l]?=some .un) (hd:ve o.op=true->o.dst=none)
  (h:(eP X s l o.op).K R):ga P f s o a w R:=by
 cases ho:o.op with
 | move x=>rw [ho] at h;exact aet D x (.inl ho) h
 | assign x=>rw [ho] at h;exact aet D x (.inr ho) h
 | pick c x y=>rw [ho] at h;exact aqe D c x y ho h
 | alloc e =>
  rw [ho] at h hl
  simp only [eP] at h
  split at h
  ·rename_i i hi;exact apa C D (hl rfl) e ho hi h
  ·exact h.elim
 | box e x =>
  rw [ho] at h hl
  simp only [eP] at h
  split at h
  ·rename_i i cs hi hc;exact arB C D (hl rfl) e x ho hc h
  ·exact h.elim
 | build t ps=>rw [ho] at h;exact apb C D t ps ho h
 | buildSlice t n ps=>rw [ho] at h hl;exact al6 C D (hl rfl) t n ps ho h
 | load t x=>rw [ho] at h;exact aqg C D t x ho h
 | store t x y=>rw [ho] at h;exact ao7 C D t x y ho (hd (by rw [ho];rfl)) h
 | nilCheck x =>
  rw [ho] at h
  simp only [eP] at h
  have hx:=D.ev x
  split at h<;>first|exact h.elim|skip
  ·rename_i l off e
   rw [e] at hx
   have:∃ad,a.eval x=.pointer (some ad):=by
    simp only [rel] at hx
    split at hx
    ·exact hx.elim
    ·exact hx
    ·obtain ⟨bl,_,h⟩:=hx;exact ⟨_,h⟩
   obtain ⟨ad,hp⟩:=this
   exact Ky D (v:=a.eval x) (λw=>by simp [execOp,ho,hp]) hx h
  ·rename_i cs off e
   rw [e] at hx
   have:∃ad,a.eval x=.pointer (some ad):=by
    simp only [rel] at hx
    obtain ⟨ad,h,_⟩:=hx;exact ⟨_,h⟩
   obtain ⟨ad,hp⟩:=this
   exact Ky D (v:=a.eval x) (λw=>by simp [execOp,ho,hp]) hx h
  ·rename_i fid fs cs e
   rw [e] at hx
   have:∃g1 g2,a.eval x=.func (.func fid) g1 g2:=by
    simp only [rel] at hx
    obtain ⟨g1,g2,h,_⟩:=hx;exact ⟨_,_,h⟩
   obtain ⟨g1,g2,hp⟩:=this
   exact Ky D (v:=a.eval x) (λw=>by simp [execOp,ho,hp]) hx h
 | binOp op t x y t'=>rw [ho] at h;exact ary C D op t t' x y ho h
 | unOp op t x=>rw [ho] at h;exact atc D op t x ho h
 | convert src dst x=>rw [ho] at h;exact aqf C D src dst x ho h
 | makeFunc fn first cap =>
  rw [ho] at h
  refine Ky D (v:=.func fn (first.map a.eval) (cap.map a.eval)) (λw=>by simp [execOp,ho,Instr.makeFunc]) ?_ h
  simp only [rel]
  refine ⟨first.toList.map a.eval,cap.toList.map a.eval,?_,D.FW _,D.FW _⟩
  congr 1<;>(apply pj;simp)
 | makeSlice t n m=>rw [ho] at h hl;exact amh C D (hl rfl) t n m ho h
 | slice t x lo hi mx =>
  rw [ho] at h hl
  exact aph C D t x lo hi mx (λhm=>hl (by cases mx<;>simp [ij] at hm ⊢)) ho h
 | fieldAddr t x j=>rw [ho] at h;exact amf C D t x j ho h
 | field t x j=>rw [ho] at h;exact ao9 C D t x j ho h
 | indexAddr t x ix=>rw [ho] at h;exact amg C D t x ix ho h
 | index t x ix=>rw [ho] at h;exact ao8 C D t x ix ho h
 | makeMap t r =>
  rw [ho] at h hl
  cases r with
  | none=>exact anh C D (hl rfl) t ho h
  | some r=>exact h.elim
 | lookup t x ix ok=>rw [ho] at h;exact an3 C D t x ix ok ho h
 | mapUpdate t x ix y=>rw [ho] at h;exact aaB C D t x ix y (.inl ho) (hd (by rw [ho];rfl)) h
 | insert t x ix y=>rw [ho] at h;exact aaB C D t x ix y (.inr ho) (hd (by rw [ho];rfl)) h
 | range t x=>rw [ho] at h hl;exact ape C D (hl rfl) t x ho h
 | entry x=>rw [ho] at h;exact apf D x ho h
 | extract x j =>
  rw [ho] at h
  simp only [eP] at h
  have hx:=D.ev x
  split at h<;>first|exact h.elim|skip
  rename_i cs e
  split at h<;>first|exact h.elim|skip
  rename_i v hv
  rw [e] at hx
  simp only [rel] at hx
  obtain ⟨vs,h1,h2⟩:=hx
  obtain ⟨u,h3,h4⟩:=u9 h2 j v hv
  exact Ky D (v:=u) (λw=>by simp [execOp,ho,h1,Instr.extract,h3]) h4 h
 | call c =>
  rw [ho] at h hl
  simp only [eP] at h
  split at h<;>first|exact h.elim|skip
  ·rename_i g hg
   split at h<;>first|exact h.elim|skip
   rename_i fid first cap hv
   exact aqj C D ho hg hv h
  ·rename_i bi hg
   obtain ⟨callee,args,argTypes⟩:=c
   simp only at hg h
   subst hg
   unfold Ck at h
   split at h<;>first|exact h.elim|skip
   ·split at h<;>first|exact h.elim|skip
    rename_i t x e1 e2
    obtain ⟨x0,e3,rfl⟩:=ag5 e2
    have vz:argTypes=#[t]:=by apply pj;simpa using e1
    have nO:args=#[x0]:=by apply pj;simpa using e3
    subst vz;subst nO
    exact arC C D t x0 ho h
   ·split at h<;>first|exact h.elim|skip
    rename_i t t' x y e1 e2
    split at h
    ·rename_i ht
     subst ht
     obtain ⟨x0,y0,e3,rfl,rfl⟩:=Lj e2
     have vz:argTypes=#[t,t]:=by apply pj;simpa using e1
     have nO:args=#[x0,y0]:=by apply pj;simpa using e3
     subst vz;subst nO
     exact an2 C D (hl rfl) t x0 y0 ho h
    ·obtain ⟨x0,y0,e3,rfl,rfl⟩:=Lj e2
     have vz:argTypes=#[t,t']:=by apply pj;simpa using e1
     have nO:args=#[x0,y0]:=by apply pj;simpa using e3
     subst vz;subst nO
     exact ani C D (hl rfl) t t' x0 y0 ho h
   ·split at h<;>first|exact h.elim|skip
    rename_i t t' x y e1 e2
    split at h<;>first|exact h.elim|skip
    rename_i ht
    subst ht
    obtain ⟨x0,y0,e3,rfl,rfl⟩:=Lj e2
    have vz:argTypes=#[t,t]:=by apply pj;simpa using e1
    have nO:args=#[x0,y0]:=by apply pj;simpa using e3
    subst vz;subst nO
    exact aqh C D t x0 y0 ho h
   ·split at h<;>first|exact h.elim|skip
    rename_i t x e1 e2
    obtain ⟨x0,e3,rfl⟩:=ag5 e2
    have vz:argTypes=#[t]:=by apply pj;simpa using e1
    have nO:args=#[x0]:=by apply pj;simpa using e3
    subst vz;subst nO
    exact apg C D t x0 ho h
   ·split at h<;>first|exact h.elim|skip
    rename_i x y e2
    obtain ⟨x0,y0,e3,rfl,rfl⟩:=Lj e2
    have nO:args=#[x0,y0]:=by apply pj;simpa using e3
    subst nO
    exact ag2 D .min min argTypes x0 y0 (.inl ⟨rfl,rfl⟩) ho h
    rename_i x y z e2
    obtain ⟨x0,y0,z0,e3,rfl,rfl,rfl⟩:=ag6 e2
    have nO:args=#[x0,y0,z0]:=by apply pj;simpa using e3
    subst nO
    exact afy D .min min argTypes x0 y0 z0 (.inl ⟨rfl,rfl⟩) ho h
   ·split at h<;>first|exact h.elim|skip
    rename_i x y e2
    obtain ⟨x0,y0,e3,rfl,rfl⟩:=Lj e2
    have nO:args=#[x0,y0]:=by apply pj;simpa using e3
    subst nO
    exact ag2 D .max max argTypes x0 y0 (.inr ⟨rfl,rfl⟩) ho h
    rename_i x y z e2
    obtain ⟨x0,y0,z0,e3,rfl,rfl,rfl⟩:=ag6 e2
    have nO:args=#[x0,y0,z0]:=by apply pj;simpa using e3
    subst nO
    exact afy D .max max argTypes x0 y0 z0 (.inr ⟨rfl,rfl⟩) ho h
 | _=>rw [ho] at h;exact h.elim
end
def eW.out:eW->SV->List (Nat × Slot)->Prop
 | .fail,_,_=>False
 | .pure x u,y,v=>y=x/\v=u
 | .l7 p x u,y,v=>p ()/\y=x/\v=u
 | .ex T p x u,y,v=>∃t,p t/\y=x t/\v=u t
theorem eW.PA (A:eW) (R:SV->List (Nat × Slot)->Prop):A.K R↔∃x u,A.out x u/\R x u:=by
 cases A with
 | fail=>simp [eW.K,eW.out]
 | pure x u=>simp only [eW.K,eW.out];exact ⟨λh=>⟨_,_,⟨rfl,rfl⟩,h⟩,λ⟨_,_,⟨h1,h2⟩,h⟩=>by subst h1;subst h2;exact h⟩
 | l7 p x u=>simp only [eW.K,eW.out];exact ⟨λh=>⟨_,_,⟨h.1.out,rfl,rfl⟩,h.2⟩,λ⟨_,_,⟨h0,h1,h2⟩,h⟩=>by subst h1;subst h2;exact ⟨⟨h0⟩,h⟩⟩
 | ex T p x u=>simp only [eW.K,eW.out];exact ⟨λ⟨t,h⟩=>⟨_,_,⟨t,h.1.out,rfl,rfl⟩,h.2⟩,λ⟨_,_,⟨t,h0,h1,h2⟩,h⟩=>by subst h1;subst h2;exact ⟨t,⟨h0⟩,h⟩⟩
def xY (ops:List Oper) (o:Oper):Option (Option Tmp × Bool) :=
 match o.guard with
 | none=>none
 | some (j,want)=>some ((ops[j]?).bind (·.dst),want)
def nf:SV->Option SV
 | .bc c=>some (.bc c)
 | .b x=>some (.bc (x ()))
 | .dH []=>some (.dH [])
 | _=>none
def nE (want:Bool):SV->Bool
 | .bc c=>c == want
 | _=>false
def Mf (X:Ctx) (o:Oper) (l:Nat) (s s':St):Prop:=∃x u,(eP X s l o.op).out x u/\s'=s.gq o.dst x u
def Out (X:Ctx) (ops:List Oper) (o:Oper) (l:Nat) (s s':St):Prop :=
 match xY ops o with
 | none=>Mf X o l s s'
 | some (none,_)=>False
 | some (some g,want)=>∃y v,s.t[g]?=some y/\nf y=some v /\
  match nE want v with
  | true=>Mf X o l { s with t:=s.t.set g v } s'
  | false=>s'=({ s with t:=s.t.set g v }:St).gq o.dst (.dH []) []
def zA (X:Ctx) (o:Oper) (l:Nat) (s:St) (k:St->Prop):Prop:=(eP X s l o.op).K λx u=>k (s.gq o.dst x u)
def wu (o:Oper) (s:St) (k:St->Prop):Prop:=k (s.gq o.dst (.dH []) [])
def PB (X:Ctx) (ops:List Oper) (o:Oper) (l:Nat) (s:St) (k:St->Prop):Prop :=
 match xY ops o with
 | none=>zA X o l s k
 | some (none,_)=>False
 | some (some g,want)=>match s.t[g]? with
  | some (.bc c)=>match c,want with
   | true,true=>zA X o l s k
   | false,false=>zA X o l s k
   | _,_=>wu o s k
  | some (.b x)=>match want with
   | true=>(Bp x->zA X o l { s with t:=s.t.set g (.bc true) } k)/\(Br x->wu o { s with t:=s.t.set g (.bc false) } k)
   | false=>(Bp x->wu o { s with t:=s.t.set g (.bc true) } k)/\(Br x->zA X o l { s with t:=s.t.set g (.bc false) } k)
  | some (.dH [])=>wu o s k
  | _=>False
theorem Cl (X:Ctx) (o:Oper) (l:Nat) (s:St) (k:St->Prop):zA X o l s k↔∃s',Mf X o l s s'/\k s':=by
 unfold zA Mf
 rw [eW.PA]
 exact ⟨λ⟨x,u,h1,h2⟩=>⟨_,⟨x,u,h1,rfl⟩,h2⟩,λ⟨_,⟨x,u,h1,e⟩,h2⟩=>by subst e;exact ⟨x,u,h1,h2⟩⟩
theorem Ov {α:Type 1} (l:List α) (i:Nat) (x:α) (h:l[i]?=some x):l.set i x=l:=by
 apply n5
 intro j
 rw [jb]
 split
 ·rename_i e;subst e
  have:=(bY.1 h).1
  rw [if_pos this,h]
 ·rfl
theorem abm (X:Ctx) (ops:List Oper) (o:Oper) (l:Nat) (s:St) (k:St->Prop):PB X ops o l s k↔∃s',Out X ops o l s s'/\k s':=by
 unfold PB Out
 split
 ·exact Cl X o l s k
 ·simp
 ·rename_i g want hg
  split
  ·rename_i c hc
   have hs:({ s with t:=s.t.set g (.bc c) }:St)=s:=by rw [Ov _ _ _ hc]
   split
   ·rw [Cl]
    exact ⟨λ⟨s',h1,h2⟩=>⟨s',⟨_,_,hc,rfl,by simpa [nE,hs] using h1⟩,h2⟩,λ⟨s',⟨y,v,e1,e2,h1⟩,h2⟩=>by
     rw [hc] at e1;simp at e1;subst e1;simp [nf] at e2;subst e2;exact ⟨s',by simpa [nE,hs] using h1,h2⟩⟩
   ·rw [Cl]
    exact ⟨λ⟨s',h1,h2⟩=>⟨s',⟨_,_,hc,rfl,by simpa [nE,hs] using h1⟩,h2⟩,λ⟨s',⟨y,v,e1,e2,h1⟩,h2⟩=>by
     rw [hc] at e1;simp at e1;subst e1;simp [nf] at e2;subst e2;exact ⟨s',by simpa [nE,hs] using h1,h2⟩⟩
   ·rename_i n1 n2
    have hw:nE want (.bc c)=false:=by cases c<;>cases want<;>simp_all [nE]
    unfold wu
    exact ⟨λh=>⟨_,⟨_,_,hc,rfl,by rw [hw,hs]⟩,h⟩,λ⟨s',⟨y,v,e1,e2,h1⟩,h2⟩=>by
     rw [hc] at e1;simp at e1;subst e1;simp [nf] at e2;subst e2;rw [hw,hs] at h1;simp only at h1;subst h1;exact h2⟩
  ·rename_i x hx
   have key:∀(A B:St->Prop),(((Bp x->A { s with t:=s.t.set g (.bc true) })/\(Br x->B { s with t:=s.t.set g (.bc false) })) ↔
     (if x () then A { s with t:=s.t.set g (.bc (x ())) } else B { s with t:=s.t.set g (.bc (x ())) })):=by
    intro A B
    cases h:x ()
    ·simp only [jA,if_false]
     exact ⟨λhh=>hh.2 ⟨h⟩,λhh=>⟨λt=>(by have:=t.out;rw [h] at this;cases this),λ_=>hh⟩⟩
    ·simp only [if_true]
     exact ⟨λhh=>hh.1 ⟨h⟩,λhh=>⟨λ_=>hh,λt=>(by have:=t.out;rw [h] at this;cases this)⟩⟩
   have IG:∀(Z:SV->Prop),(∃y v,s.t[g]?=some y/\nf y=some v/\Z v)↔Z (.bc (x ())):=by
    intro Z
    exact ⟨λ⟨y,v,e1,e2,h⟩=>by rw [hx] at e1;simp at e1;subst e1;simp [nf] at e2;subst e2;exact h,λh=>⟨_,_,hx,rfl,h⟩⟩
   split
   ·rw [key (λs=>zA X o l s k) (λs=>wu o s k)]
    constructor
    ·intro h
     cases hb:x ()
     ·rw [hb] at h;simp only [jA,if_false] at h
      exact ⟨_,(IG _).2 (by rw [hb];simp [nE]),h⟩
     ·rw [hb] at h;simp only [if_true] at h
      obtain ⟨s',h1,h2⟩:=(Cl X o l _ k).1 h
      exact ⟨s',(IG _).2 (by rw [hb];simpa [nE] using h1),h2⟩
    ·rintro ⟨s',h1,h2⟩
     have h1:=(IG _).1 h1
     cases hb:x ()
     ·rw [hb] at h1;simp [nE] at h1;subst h1
      simpa only [jA,if_false,wu] using h2
     ·rw [hb] at h1;simp [nE] at h1
      simp only [if_true]
      exact (Cl X o l _ k).2 ⟨s',h1,h2⟩
   ·rw [key (λs=>wu o s k) (λs=>zA X o l s k)]
    constructor
    ·intro h
     cases hb:x ()
     ·rw [hb] at h;simp only [jA,if_false] at h
      obtain ⟨s',h1,h2⟩:=(Cl X o l _ k).1 h
      exact ⟨s',(IG _).2 (by rw [hb];simpa [nE] using h1),h2⟩
     ·rw [hb] at h;simp only [if_true] at h
      exact ⟨_,(IG _).2 (by rw [hb];simp [nE]),h⟩
    ·rintro ⟨s',h1,h2⟩
     have h1:=(IG _).1 h1
     cases hb:x ()
     ·rw [hb] at h1;simp [nE] at h1
      simp only [jA,if_false]
      exact (Cl X o l _ k).2 ⟨s',h1,h2⟩
     ·rw [hb] at h1;simp [nE] at h1;subst h1
      simpa only [if_true,wu] using h2
  ·rename_i hx
   have hs:({ s with t:=s.t.set g (.dH []) }:St)=s:=by rw [Ov _ _ _ hx]
   unfold wu
   exact ⟨λh=>⟨_,⟨_,_,hx,rfl,by rw [hs];simp [nE]⟩,h⟩,λ⟨s',⟨y,v,e1,e2,h1⟩,h2⟩=>by
     rw [hx] at e1;simp at e1;subst e1;simp [nf] at e2;subst e2;rw [hs] at h1;simp [nE] at h1;subst h1;exact h2⟩
  ·rename_i n1 n2 n3
   refine ⟨λh=>h.elim,λ⟨s',⟨y,v,e1,e2,_⟩,_⟩=>?_⟩
   unfold nf at e2
   split at e2
   ·exact n1 _ e1
   ·exact n2 _ e1
   ·exact n3 e1
   ·cases e2
section
variable {P:Program} {X:Ctx} {f:Fr} {s:St} {η:Nat->Value} {H:bR} {a:Act} {w:World} {o:Oper}
theorem Den.aev (D:Den f s η H a w) {g:Tmp} {d:Bool} {p:Unit->Prop} (hy:s.t[g]?=some (.nb d p)):∃c,a.tmps.getD g undef=.bool c/\(c=d->p ()):=by
 have hr:=D.EH g
 rw [hy] at hr
 simpa only [n6,rel] using hr
theorem Den.aew (D:Den f s η H a w) {g:Tmp} {y v:SV} (hy:s.t[g]?=some y) (sO:rel η (bg s.b) H v (a.tmps.getD g undef)) :
  Den f { s with t:=s.t.set g v } η H a w:=by
 refine { D with t:=?_ }
 obtain ⟨u,h1,h2⟩:=u9 D.t g y hy
 have h3:=yZ D.t g (x:=v) (u:=u) (by
  have:a.tmps.getD g undef=u:=by
   have h3:a.tmps[g]?=some u:=by simpa using h1
   simp [JY,h3]
  rw [this] at sO
  exact sO)
 have h4:a.tmps.toList.set g u=a.tmps.toList:=by
  apply n5
  intro j
  rw [jb]
  split
  ·rename_i e;subst e
   have:=(bY.1 h1).1
   rw [if_pos this,h1]
  ·rfl
 rwa [h4] at h3
theorem Den.guard (D:Den f s η H a w) {g:Tmp} {y v:SV} (hy:s.t[g]?=some y) (hv:nf y=some v) :
  Den f { s with t:=s.t.set g v } η H a w/\rel η (bg s.b) H v (a.tmps.getD g undef):=by
 have hr:=D.EH g
 rw [hy] at hr
 simp only [n6] at hr
 have sO:rel η (bg s.b) H v (a.tmps.getD g undef):=by
  unfold nf at hv
  split at hv
  ·simp at hv;subst hv;exact hr
  ·simp at hv;subst hv;simpa only [rel] using hr
  ·simp at hv;subst hv;exact hr
  ·cases hv
 refine ⟨{ D with t:=?_ },sO⟩
 obtain ⟨u,h1,h2⟩:=u9 D.t g y hy
 have h3:=yZ D.t g (x:=v) (u:=u) (by
  have:a.tmps.getD g undef=u:=by
   have h3:a.tmps[g]?=some u:=by simpa using h1
   simp [JY,h3]
  rw [this] at sO
  exact sO)
 have h4:a.tmps.toList.set g u=a.tmps.toList:=by
  apply n5
  intro j
  rw [jb]
  split
  ·rename_i e;subst e
   have:=(bY.1 h1).1
   rw [if_pos this,h1]
  ·rfl
 rw [h4] at h3
 exact h3
theorem acj (D:Den f s η H a w) {g:Tmp} {y:SV} (hy:s.t[g]?=some y):a.tmps[g]?=some (a.tmps.getD g undef):=by
 obtain ⟨u,h1,h2⟩:=u9 D.t g y hy
 have h3:a.tmps[g]?=some u:=by simpa using h1
 simp [JY,h3]
def Uv (o:Oper) (l:Nat) (s:St):Prop:=ij o.op=true->s.b[l]?=some .un
def Kh (o:Oper):Prop:=ve o.op=true->o.dst=none
theorem JU (C:X.Ok P) (D:Den f s η H a w) {ops:Array Oper} {i:Nat} (hi:ops[i]?=some o) {l:Nat} (hl:Uv o l s) (hs:Kh o) {s':St} (h:Out X ops.toList o l s s')
  {Q:Exit->Act->World->Prop} {K:Act->World->Prop} (hK:∀η' H' a' w',Den f s' η' H' a' w'->K a' w'):wpOp P ops Q i K a w:=by
 have did:∀{s0:St},Den f s0 η H a w->s0.b=s.b->Mf X o l s0 s'->o.wp P a w K Q:=by
  intro s0 D0 hb ⟨x,u,ho,e⟩
  have:=TJ (R:=λx' u'=>x'=x/\u'=u) C D0 (l:=l) (λha=>by rw [hb];exact hl ha) hs ((eW.PA _ _).2 ⟨x,u,ho,rfl,rfl⟩)
  obtain ⟨x',u',⟨rfl,rfl⟩,Mg⟩:=this
  exact Mg K Q λη' H' w' v D'=>hK η' H' _ w' (by rw [e];exact D')
 have arF:∀{j:Nat} {want:Bool},o.guard=some (j,want)->Region.wanted o (yielded ops a.tmps)=(yielded ops a.tmps j == some want):=λhg=>by simp [Region.wanted,hg]
 unfold wpOp
 rw [hi]
 simp only
 unfold Out xY at h
 split at h
 ·rename_i hg
  have X9:o.guard=none:=by
   cases hq:o.guard with
   | none=>rfl
   | some p=>rw [hq] at hg;cases hg
  rw [if_pos (by simp [Region.wanted,X9])]
  exact .inl (did D rfl h)
 ·exact h.elim
 ·rename_i g want hg
  obtain ⟨y,v,hy,hv,h⟩:=h
  cases hq:o.guard with
  | none=>rw [hq] at hg;cases hg
  | some p =>
   obtain ⟨j,VG⟩:=p
   rw [hq] at hg
   simp at hg
   obtain ⟨F7,rfl⟩:=hg
   obtain ⟨D0,hr⟩:=D.guard hy hv
   have rV:yielded ops a.tmps j=match a.tmps.getD g undef with|.bool b=>some b|_=>none:=by
    have zN:(ops[j]?).bind (·.dst)=some g:=by simpa using F7
    unfold yielded
    rw [zN]
    simp only [Option.bind_some,acj D hy]
    cases a.tmps.getD g undef<;>rfl
   rw [arF hq,rV]
   have jV:(∃c,v=.bc c)\/v=.dH []:=by
    unfold nf at hv
    split at hv<;>simp at hv
    ·exact .inl ⟨_,hv.symm⟩
    ·exact .inl ⟨_,hv.symm⟩
    ·exact .inr hv.symm
   rcases jV with ⟨c,rfl⟩|rfl
   ·simp only [rel] at hr
    rw [hr]
    simp only
    by_cases hc:c=VG
    ·subst hc
     simp only [nE,beq_self_eq_true] at h
     simp only [beq_self_eq_true,if_true]
     exact .inl (did D0 rfl h)
    ·have h1:(c == VG)=false:=by simpa using hc
     have h2:(some c == some VG)=false:=by simpa using hc
     rw [if_neg (by rw [h2];simp)]
     simp only [nE,h1] at h
     refine hK η H _ w ?_
     rw [h]
     exact Den.put D0 o.dst (by simp only [rel];exact ⟨[],rfl,by simp [bd]⟩)
   ·have hnb:∀b,a.tmps.getD g undef≠.bool b:=by
     intro b hb
     simp only [rel] at hr
     obtain ⟨vs,h1,_⟩:=hr
     rw [hb] at h1;cases h1
    rw [if_neg (by
     cases rW:a.tmps.getD g undef with
     | bool b=>exact absurd rW (hnb b)
     | _=>simp)]
    simp only [nE] at h
    refine hK η H _ w ?_
    rw [h]
    exact Den.put D0 o.dst (by simp only [rel];exact ⟨[],rfl,by simp [bd]⟩)
theorem an6 {K:Act->World->Prop} (h:o.wp P a w K λ_ _ _=>False):∃a' w',K a' w':=by
 unfold Oper.wp at h
 generalize (execOp a.eval o).run P w=r at h
 cases r with
 | ok n w' =>
  cases n<;>simp only [Oper.upon] at h
  case value v=>exact ⟨_,_,h⟩
  case skip=>exact ⟨_,_,h⟩
  case defer d=>exact ⟨_,_,h⟩
  case enter g args =>
   obtain ⟨e,w',fr,hR,_⟩:=h []
   cases e with
   | returned v=>exact ⟨_,_,hR⟩
   | panicked c=>exact hR.elim
   | outgrown=>obtain ⟨_,_,h⟩:=hR;exact h.elim
  case row row args =>
   obtain ⟨v,w',hR,_⟩:=h default []
   exact ⟨_,_,hR⟩
 | halt x w'=>cases x<;>simp only [Oper.upon] at h
def Good (f:Fr) (s:St):Prop:=∃η H a w,Den f s η H a w
theorem Good.out (C:X.Ok P) (G:Good f s) {ops:Array Oper} {i:Nat} (hi:ops[i]?=some o) {l:Nat} (hl:Uv o l s) (hs:Kh o) {s':St} (h:Out X ops.toList o l s s'):Good f s':=by
 obtain ⟨η,H,a,w,D⟩:=G
 have:=JU C D hi hl hs h (Q:=λ_ _ _=>False) (K:=λ_ _=>Good f s') (λη' H' a' w' D'=>⟨η',H',a',w',D'⟩)
 unfold wpOp at this
 rw [hi] at this
 simp only at this
 split at this
 ·rcases this with this|⟨_,_,_,h⟩
  ·obtain ⟨_,_,h⟩:=an6 this;exact h
  ·exact h.elim
 ·exact this
end
end Go.Vc
