import Derived.Test.YthnhbemmlfaihaaGreatU2
set_option linter.unusedVariables false
set_option linter.unusedSimpArgs false
set_option maxRecDepth 10000
set_option maxHeartbeats 64000000
namespace Go.Vc
open Go
section
variable {P:Program} {X:Ctx} {f:Fr} {s:St} {η:Nat->Value} {H:bO} {a:Act} {w:World} {o:Oper} {R:SV->List (Nat × Slot)->Prop}
theorem JV {q:Nat->Live} {lo:Option Operand} {m:Unit->Int} (D:Den f s η H a w) (h:lower (lo.map (Vc.ev s))=some m) :
  (lo=none/\m ()=0)\/∃x k,lo=some x/\a.eval x=.int k (m ()):=by
 cases lo with
 | none=>simp [lower] at h;subst h;exact .inl ⟨rfl,rfl⟩
 | some x =>
  simp only [vT,lower] at h
  split at h
  ·rename_i k n hn
   simp at h;subst h
   exact .inr ⟨x,k,rfl,oB hn (D.ev x)⟩
  ·cases h
theorem JW {q:Nat->Live} {len:Unit->Nat} {hi:Option Operand} {m:Unit->Int} (D:Den f s η H a w) (h:bound len (hi.map (Vc.ev s))=some m) :
  (hi=none/\m ()=len ())\/∃x k,hi=some x/\a.eval x=.int k (m ()):=by
 cases hi with
 | none=>simp [bound] at h;subst h;exact .inl ⟨rfl,rfl⟩
 | some x =>
  simp only [vT,bound] at h
  split at h
  ·rename_i k n hn
   simp at h;subst h
   exact .inr ⟨x,k,rfl,oB hn (D.ev x)⟩
  ·cases h
theorem Gp (b:Bool) (len cap:Nat) (lo hi:Option Value) (m n:Int) (fe:(lo=none/\m=0)\/∃k,lo=some (.int k m)) (gH:(hi=none/\n=len)\/∃k,hi=some (.int k n))
  (h0:0<=m) (h1:m<=n) (h2:n<=cap) (w:World):(Instr.sliceBounds b len cap lo hi none).run P w=.ok (m.toNat,n.toNat,cap) w:=by
 have hn:0<=n/\n<=(cap:Int):=by omega
 have hm:0<=m/\m<=(n.toNat:Int):=by omega
 rcases fe with ⟨rfl,rfl⟩|⟨k,rfl⟩<;>rcases gH with ⟨rfl,rfl⟩|⟨k',rfl⟩ <;>
  simp [Instr.sliceBounds,Instr.sliceBound,asIntOf,hn,hm]<;>(intro h;omega)
theorem ab0 (D:Den f s η H a w) {t e:TypeId} {x:Operand} {lo hi:Option Operand} {k:TI} (Kk:px P e k) (cU:P.underlying t=some (.slice e)) (ho:o.op=.slice t x lo hi none)
  {T:Type} {c:T->List SV} {xs:Unit->List T} (hx:rel η (bd s.b) H (.sl k.size c xs) (a.eval x)) {m n:Unit->Int} {ln:Unit->Nat} (mJ:ln ()=(xs ()).length) (hm:lower (lo.map (Vc.ev s))=some m) (hn:bound ln (hi.map (Vc.ev s))=some n)
  (h0:0<=m ()) (h1:m ()<=n ()) (h2:n ()<=(xs ()).length) (hR:R (.sl k.size c λ_=>((xs ()).take (n ()).toNat).drop (m ()).toNat) []):fT P f s o a w R:=by
 simp only [rel] at hx
 obtain ⟨⟨ad,cap,h3,h4,h5⟩,dv⟩:=hx
 have fe:=JV (q:=bd s.b) D hm
 have gH:=JW (q:=bd s.b) D hn
 rw [mJ] at gH
 have hb:=Gp (P:=P) true (xs ()).length cap (lo.map a.eval) (hi.map a.eval) (m ()) (n ())
  (by
    rcases fe with ⟨rfl,h⟩|⟨y,k,rfl,h⟩
    ·exact .inl ⟨rfl,h⟩
    ·exact .inr ⟨k,by simp [h]⟩)
  (by
    rcases gH with ⟨rfl,h⟩|⟨y,k,rfl,h⟩
    ·exact .inl ⟨rfl,h⟩
    ·exact .inr ⟨k,by simp [h]⟩) h0 h1 (by omega)
 have hlen:(((xs ()).take (n ()).toNat).drop (m ()).toNat).length=(n ()).toNat - (m ()).toNat:=by simp;omega
 refine eJ D (v:=.slice (if cap=(m ()).toNat then ad else ad.map (·.add ((m ()).toNat*k.size))) ((n ()).toNat - (m ()).toNat) (cap - (m ()).toNat)) (λw=>?_) ?_ hR
 ·simp only [execOp,ho,h3,Sem.run_bind,Instr.sliceAt,run_underlying cU,Result.andThen_ok,Instr.slice,DX,hb,run_sizeOf Kk,Sem.run_pure]
 ·simp only [rel,hlen]
  refine ⟨⟨_,_,rfl,by omega,?_⟩,dv⟩
  by_cases hz:(n ()).toNat - (m ()).toNat=0
  ·left;exact m6 (by rw [hlen];exact hz)
  right
  rcases h5 with h5|⟨a0,rfl,gV,h6⟩
  ·rw [h5] at h2;simp at h2;omega
  refine ⟨a0.add ((m ()).toNat*k.size),?_,by rw [rz _ gV],λj y hy=>?_⟩
  ·rw [if_neg (by omega)];rfl
  ·rw [lI,sR] at hy
   split at hy
   ·obtain ⟨vals,g1,g2,g3⟩:=h6 _ y hy
    refine ⟨vals,g1,g2,?_⟩
    rw [rz _ gV]
    rw [show a0.off+(m ()).toNat*k.size+j*k.size=a0.off+((m ()).toNat+j)*k.size by rw [Nat.add_mul];omega]
    exact g3
   ·cases hy
theorem aoX (C:X.Ok P) (D:Den f s η H a w) {l:Nat} (t:TypeId) (x:Operand) (lo hi mx:Option Operand) (hl:mx.isSome=true->s.b[l]?=some .un) (ho:o.op=.slice t x lo hi mx)
  (h:(Ch X s.b l t (Vc.ev s x) (lo.map (Vc.ev s)) (hi.map (Vc.ev s)) (mx.map (Vc.ev s))).K R):fT P f s o a w R:=by
 have hx:=D.ev x
 unfold Ch at h
 split at h<;>first|exact h.elim|skip
 rename_i i sG
 have I:=C.tt _ _ sG
 have cU:=I.desc
 split at h<;>first|exact h.elim|skip
 ·rename_i e hd
  rw [hd] at cU
  split at h<;>first|exact h.elim|skip
  rename_i k hk
  have Kk:=C.tt _ _ hk
  split at h
  ·rename_i hc
   simp only [eh] at hc
   obtain ⟨lz,oS⟩:=hc
   split at h<;>first|exact h.elim|skip
   rename_i E hE
   have EE:=C.el _ _ hE
   have jm:Value.isSlice (a.eval x):=by
    cases hq:Vc.ev s x<;>rw [hq] at oS hx<;>simp [agP] at oS<;>simp only [rel] at hx
    ·exact ⟨_,_,_,hx⟩
    ·split at hx
     ·exact hx.elim
     ·exact hx
     ·exact hx.2
    ·obtain ⟨ad,hx,_⟩:=hx;exact ⟨_,_,_,hx⟩
    ·obtain ⟨⟨ad,cap,hx,_⟩,_⟩:=hx;exact ⟨_,_,_,hx⟩
   obtain ⟨ad,n,cp,uw⟩:=jm
   have hb:∃y z k1 k2,lo=none/\hi=some y/\mx=some z/\a.eval y=.int k1 0/\a.eval z=.int k2 0:=by
    unfold clip at lz
    split at lz
    ·rename_i k1 k2 e1 e2 e3
     cases lo<;>simp at e1
     cases hi<;>simp at e2
     cases mx<;>simp at e3
     rename_i y z
     have hy:=D.ev y
     have hz:=D.ev z
     rw [e2] at hy;rw [e3] at hz
     simp only [rel] at hy hz
     exact ⟨y,z,_,_,rfl,rfl,rfl,hy,hz⟩
    ·cases lz
   obtain ⟨y,z,k1,k2,rfl,rfl,rfl,hy,hz⟩:=hb
   refine Ah D (hl rfl) (v:=.slice ad 0 0) (w':=w) ?_ (ry w none) (λb hb=>by cases ad<;>simp [dp] at hb) ⟨_,_,_,rfl⟩ ?_ h
   ·simp [execOp,ho,hy,hz,uw,Instr.sliceAt,run_underlying cU,Instr.slice,Instr.sliceBounds,Instr.sliceBound,asIntOf,run_sizeOf Kk]
   ·exact ⟨[],.inr ⟨⟨ad,rfl⟩,rfl,rfl⟩,by simp [a9],by simp,EE.lf⟩
  ·split at h<;>first|exact h.elim|skip
   ·rename_i T sz c xs z ex em
    split at h<;>first|exact h.elim|skip
    rename_i eb
    subst eb
    split at h<;>first|exact h.elim|skip
    rename_i kn n kz m X1 hn hz
    obtain ⟨⟨h1,h2⟩,hR⟩:=h
    obtain ⟨mz,rfl,emz⟩:∃mz,mx=some mz/\Vc.ev s mz=z:=by
     cases mx with
     | none=>cases em
     | some mz=>simp at em;exact ⟨mz,rfl,em⟩
    have Wu:lo=none:=by cases lo<;>simp at X1;rfl
    subst Wu
    rw [ex] at hx
    simp only [rel] at hx
    obtain ⟨⟨ad,cap,h3,h4,h5⟩,dv⟩:=hx
    obtain ⟨yh,rfl,hyh⟩:∃yh,hi=some yh/\(Vc.ev s yh).lq=some (kn,n):=by
     cases hi with
     | none=>cases hn
     | some yh=>exact ⟨yh,rfl,by simpa using hn⟩
    have zB:=oB hyh (D.ev yh)
    have hmz:a.eval mz=.int kz (m ()):=oB (by rw [<-emz] at hz;exact hz) (D.ev mz)
    have hb:(Instr.sliceBounds true (xs ()).length cap none (some (a.eval yh)) (some (a.eval mz))).run P w=.ok (0,(xs ()).length,(xs ()).length) w:=by
     rw [hmz]
     have q1:0<=m ()/\m ()<=(cap:Int):=by omega
     have q2:(m ()).toNat=(xs ()).length:=by omega
     have q3:(n ()).toNat=(xs ()).length:=by omega
     have q4:0<=n ()/\n ()<=m ():=by omega
     have q5:((xs ()).length:Int)<=(cap:Int):=by omega
     rw [zB,h1,h2]
     simp [Instr.sliceBounds,Instr.sliceBound,asIntOf,q5]
    refine Au D (v:=.slice (if (xs ()).length=0 then ad else ad.map (·.add (0*k.size))) (xs ()).length (xs ()).length) (w':=w) ?_ (ry w none) ?_ hR
    ·simp only [execOp,ho,h3,Sem.run_bind,Instr.sliceAt,run_underlying cU,Result.andThen_ok,Instr.slice,DX,vT,hb,run_sizeOf Kk,Sem.run_pure,Nat.sub_zero]
    ·simp only [rel]
     refine ⟨⟨_,rfl,?_⟩,dv⟩
     rcases h5 with h5|⟨a0,rfl,gV,h6⟩
     ·exact .inl h5
     by_cases gQ:xs ()=[]
     ·exact .inl gQ
     right
     have:(xs ()).length≠0:=λe=>gQ (m6 e)
     refine ⟨a0,?_,gV,h6⟩
     rw [if_neg this]
     simp [rz _ gV]
     cases a0;simp_all
   ·rename_i T sz c xs ex em
    split at h<;>first|exact h.elim|skip
    rename_i eb
    subst eb
    split at h<;>first|exact h.elim|skip
    rename_i m n hm hn
    obtain ⟨⟨h0,h1,h2⟩,hR⟩:=h
    have vn:mx=none:=by cases mx<;>simp at em;rfl
    subst vn
    rw [ex] at hx
    simp only [rel] at hx
    obtain ⟨⟨ad,cap,h3,h4,h5⟩,dv⟩:=hx
    exact ab0 D Kk cU ho (by simp only [rel];exact ⟨⟨ad,cap,h3,h4,h5⟩,dv⟩) rfl hm hn h0 h1 h2 hR
   ·rename_i l0 ex em
    split at h<;>first|exact h.elim|skip
    rename_i T e' sz c xs hs
    split at h<;>first|exact h.elim|skip
    rename_i eb
    subst eb
    split at h<;>first|exact h.elim|skip
    rename_i m n hm hn
    obtain ⟨⟨h0,h1,h2⟩,hR⟩:=h
    have vn:mx=none:=by cases mx<;>simp at em;rfl
    subst vn
    rw [ex] at hx
    simp only [rel,df hs,Slot.live] at hx
    obtain ⟨vals,p9,h4,h5,mf⟩:=D.sl l0 _ hs
    obtain ⟨ad,cap,jm,EZ⟩:=p9.slice
    have fe:=JV (q:=bd s.b) D hm
    have gH:=JW (q:=bd s.b) D hn
    have hb:=Gp (P:=P) true (xs ()).length cap (lo.map a.eval) (hi.map a.eval) (m ()) (n ())
     (by
       rcases fe with ⟨rfl,h⟩|⟨y,k,rfl,h⟩
       ·exact .inl ⟨rfl,h⟩
       ·exact .inr ⟨k,by simp [h]⟩)
     (by
       rcases gH with ⟨rfl,h⟩|⟨y,k,rfl,h⟩
       ·exact .inl ⟨rfl,h⟩
       ·exact .inr ⟨k,by simp [h]⟩) h0 h1 (by omega)
    have oR:a.eval x=.slice ad (xs ()).length cap:=hx.1.trans jm
    refine eJ D (v:=.slice (if cap=(m ()).toNat then ad else ad.map (·.add ((m ()).toNat*k.size))) ((n ()).toNat - (m ()).toNat) (cap - (m ()).toNat)) (λw=>?_) ?_ hR
    ·simp only [execOp,ho,oR,Sem.run_bind,Instr.sliceAt,run_underlying cU,Result.andThen_ok,Instr.slice,DX,hb,run_sizeOf Kk,Sem.run_pure]
    ·simp only [rel,df hs,Slot.live]
     refine ⟨ad,_,cap,jm,by omega,by omega,_,_,rfl,by omega,λaR=>?_,λh=>⟨by rw [h];split<;>cases ad<;>simp [Addr.add],by omega⟩⟩
     have h3:=p9.pos (show 0 < (xs ()).length by omega)
     rcases h3.2 with ⟨nq,_⟩|⟨g,u9,cur,hg,_,_,_⟩
     ·rw [jm] at nq;simp at nq;omega
     ·rw [jm] at hg;simp at hg
      refine ⟨g,hg.1,?_⟩
      rw [if_neg (by omega),hg.1]
      simp [uW]
   ·rename_i l0 sz g h' ex em
    split at h<;>first|exact h.elim|skip
    rename_i T e' lu c xs hs
    split at h<;>first|exact h.elim|skip
    rename_i eb
    subst eb
    split at h<;>first|exact h.elim|skip
    rename_i m n hm hn
    obtain ⟨⟨h0,h1,h2⟩,hR⟩:=h
    have vn:mx=none:=by cases mx<;>simp at em;rfl
    subst vn
    rw [ex] at hx
    simp only [rel,df hs,Slot.live] at hx
    obtain ⟨ad,nn,c0,p1,p2,p3,nk,cap,oR,p5,p6,p7⟩:=hx
    have fe:=JV (q:=bd s.b) D hm
    have gH:=JW (q:=bd s.b) D hn
    have hb:=Gp (P:=P) true (h' () - g ()) cap (lo.map a.eval) (hi.map a.eval) (m ()) (n ())
     (by
       rcases fe with ⟨rfl,h⟩|⟨y,k,rfl,h⟩
       ·exact .inl ⟨rfl,h⟩
       ·exact .inr ⟨k,by simp [h]⟩)
     (by
       rcases gH with ⟨rfl,h⟩|⟨y,k,rfl,h⟩
       ·exact .inl ⟨rfl,h⟩
       ·exact .inr ⟨k,by simp [h]⟩) h0 h1 (by omega)
    refine eJ D (v:=.slice (if cap=(m ()).toNat then nk else nk.map (·.add ((m ()).toNat*k.size))) ((n ()).toNat - (m ()).toNat) (cap - (m ()).toNat)) (λw=>?_) ?_ hR
    ·simp only [execOp,ho,oR,Sem.run_bind,Instr.sliceAt,run_underlying cU,Result.andThen_ok,Instr.slice,DX,hb,run_sizeOf Kk,Sem.run_pure]
    ·simp only [rel,df hs,Slot.live]
     refine ⟨ad,nn,c0,p1,by omega,by omega,_,_,by rw [show g ()+(n ()).toNat - (g ()+(m ()).toNat)=(n ()).toNat - (m ()).toNat by omega],by omega,λaR=>?_,λh=>⟨by rw [show (m ()).toNat=0 by omega,<-(p7 (by omega)).1];split<;>cases nk<;>simp [Addr.add],by rw [<-(p7 (by omega)).2];omega⟩⟩
     obtain ⟨bl,q1,q2⟩:=p6 (by omega)
     refine ⟨bl,q1,?_⟩
     rw [if_neg (by omega),q2]
     simp [uW,Nat.add_mul]
   ·rename_i ex em
    split at h<;>first|exact h.elim|skip
    rename_i k' X1 X2
    have vn:mx=none:=by cases mx<;>simp at em;rfl
    have Wu:lo=none:=by cases lo<;>simp at X1;rfl
    subst vn;subst Wu
    rw [ex] at hx
    simp only [rel] at hx
    cases hi with
    | none=>simp at X2
    | some y =>
     have hy:=D.ev y
     simp only [vT,tO] at X2
     rw [X2] at hy
     simp only [rel] at hy
     have hb:=Gp (P:=P) true 0 0 none (some (a.eval y)) 0 0 (.inl ⟨rfl,rfl⟩) (.inr ⟨k',by rw [hy]⟩) (by omega) (by omega) (by omega)
     refine eJ D (v:=.slice none 0 0) (λw=>?_) (by simp only [rel]) h
     simp only [execOp,ho,hx,Sem.run_bind,Instr.sliceAt,run_underlying cU,Result.andThen_ok,Instr.slice,DX,vT,hb,run_sizeOf Kk,Sem.run_pure]
     rfl
   ·rename_i cs n ex em
    split at h<;>first|exact h.elim|skip
    rename_i E hE
    have EE:=C.el _ _ hE
    split at h<;>first|exact h.elim|skip
    rename_i m n' hm hn
    obtain ⟨l,⟨qa,vk,h0,h1,h2⟩,hR⟩:=h
    have vn:mx=none:=by cases mx<;>simp at em;rfl
    subst vn
    rw [ex] at hx
    have ya:=v8 (Le.eK (c:=E.c) (ys:=λ_=>l) qa (λy _=>EE.len k hk y) (λx=>(EE.lf x).1) vk) hx
    exact ab0 D Kk cU ho ya qa.symm hm hn h0 h1 (by omega) hR
 ·rename_i hd
  rw [hd] at cU
  split at h<;>first|exact h.elim|skip
  rename_i y ex em
  split at h<;>first|exact h.elim|skip
  rename_i m n hm hn
  obtain ⟨⟨h0,h1,h2⟩,hR⟩:=h
  have vn:mx=none:=by cases mx<;>simp at em;rfl
  subst vn
  rw [ex] at hx
  simp only [rel] at hx
  have fe:=JV (q:=bd s.b) D hm
  have gH:=JW (q:=bd s.b) D hn
  have hb:=Gp (P:=P) false (y ()).size (y ()).size (lo.map a.eval) (hi.map a.eval) (m ()) (n ())
    (by
      rcases fe with ⟨rfl,h⟩|⟨y,k,rfl,h⟩
      ·exact .inl ⟨rfl,h⟩
      ·exact .inr ⟨k,by simp [h]⟩)
    (by
      rcases gH with ⟨rfl,h⟩|⟨y,k,rfl,h⟩
      ·exact .inl ⟨rfl,h⟩
      ·exact .inr ⟨k,by simp [h]⟩) h0 h1 (by omega)
  refine eJ D (v:=.string ((y ()).extract (m ()).toNat (n ()).toNat)) (λw=>?_) (by simp only [rel]) hR
  simp [execOp,ho,hx,Instr.sliceAt,run_underlying cU,Instr.slice,hb]
 ·rename_i n e hd
  rw [hd] at cU
  split at h<;>first|exact h.elim|skip
  rename_i k E hk hE
  have Kk:=C.tt _ _ hk
  have EE:=C.el _ _ hE
  split at h<;>first|exact h.elim|skip
  rename_i cs off ex em
  split at h<;>first|exact h.elim|skip
  rename_i m hh hm hn
  obtain ⟨l,⟨qa,vk,h0,h1,h2⟩,hR⟩:=h
  have vn:mx=none:=by cases mx<;>simp at em;rfl
  subst vn
  rw [ex] at hx
  simp only [rel] at hx
  obtain ⟨a0,hv,vals,n6,Kh⟩:=hx
  have fe:=JV (q:=bd s.b) D hm
  have gH:=JW (q:=bd s.b) D hn
  have hb:=Gp (P:=P) false n n (lo.map a.eval) (hi.map a.eval) (m ()) (hh ())
    (by
      rcases fe with ⟨rfl,h⟩|⟨y,k,rfl,h⟩
      ·exact .inl ⟨rfl,h⟩
      ·exact .inr ⟨k,by simp [h]⟩)
    (by
      rcases gH with ⟨rfl,h⟩|⟨y,k,rfl,h⟩
      ·exact .inl ⟨rfl,h⟩
      ·exact .inr ⟨k,by simp [h]⟩) h0 h1 (by omega)
  have hlen:((l.take (hh ()).toNat).drop (m ()).toNat).length=(hh ()).toNat - (m ()).toNat:=by simp;omega
  have vo:=kL vk (GR (GQ n6 off) (n*k.size))
  refine eJ D (v:=.slice (some (if n=(m ()).toNat then ⟨a0.block,a0.off+off,none⟩ else (⟨a0.block,a0.off+off,none⟩:Addr).add ((m ()).toNat*k.size))) ((hh ()).toNat - (m ()).toNat) (n - (m ()).toNat)) (λw=>?_) ?_ hR
  ·simp only [execOp,ho,hv,Sem.run_bind,Instr.sliceAt,run_underlying cU,Result.andThen_ok,Instr.sureAddr,DX,hb,run_sizeOf Kk,Sem.run_pure]
  ·simp only [rel,hlen]
   refine ⟨⟨_,_,rfl,by omega,?_⟩,λx=>(EE.lf x).1⟩
   by_cases hz:(hh ()).toNat - (m ()).toNat=0
   ·left;exact m6 (by rw [hlen];exact hz)
   right
   refine ⟨_,rfl,?_,λj y hy=>?_⟩
   ·rw [if_neg (by omega),rz _ rfl]
   ·rw [lI,sR] at hy
    split at hy
    ·have g:=DQ (λx _=>EE.len k hk x) vo _ y hy
     refine ⟨_,?_,g,?_⟩
     ·rw [j3 g];exact EE.len k hk y
     ·rw [if_neg (by omega),rz _ rfl]
      intro i u hu
      rw [sR] at hu
      split at hu
      ·rw [lI,sR] at hu
       split at hu
       ·rw [lI] at hu
        have:=Kh _ u hu
        rw [show a0.off+off+(m ()).toNat*k.size+j*k.size+i=a0.off+(off+(((m ()).toNat+j)*k.size+i)) by rw [Nat.add_mul];omega]
        exact this
       ·cases hu
      ·cases hu
    ·cases hy
theorem Wv {α:Type} {β:Type 1} {f:α->β} {l:List α} {x:β} (h:l.map f=[x]):∃a,l=[a]/\f a=x:=by
 match l,h with
 | [a],h=>simp at h;exact ⟨a,rfl,h⟩
theorem K4 {α:Type} {β:Type 1} {f:α->β} {l:List α} {x y:β} (h:l.map f=[x,y]):∃a b,l=[a,b]/\f a=x/\f b=y:=by
 match l,h with
 | [a,b],h=>simp at h;exact ⟨a,b,rfl,h.1,h.2⟩
theorem agW {α:Type} {β:Type 1} {f:α->β} {l:List α} {x y z:β} (h:l.map f=[x,y,z]):∃a b c,l=[a,b,c]/\f a=x/\f b=y/\f c=z:=by
 match l,h with
 | [a,b,c],h=>simp at h;exact ⟨a,b,c,rfl,h.1,h.2.1,h.2.2⟩
def jO (w:World):bO:=λb=>w.heap[b]?
theorem BO (w:World):(jO w).jT w:=λb o h=>h
theorem al8 {b o:Nat} {u:Value} (h:w.cell? ⟨b,o,none⟩=some u):s5 (jO w) b o=some u:=by
 unfold World.cell? at h
 unfold s5 jO
 split at h
 ·rename_i c e fz he
  simp at he
  simp [he] at h ⊢
  exact h
 ·cases h
structure xO (D:Den f s η H a w) (G:bO):Prop where
 le:H.le G
 own:∀l b,bd s.b l=.live->dp (η l)=some b->G b=w.heap[b]?
theorem xO.world (D:Den f s η H a w):xO D (jO w):=⟨D.hw,λ_ _ _ _=>rfl⟩
theorem ab1 (D:Den f s η H a w) {G:bO} {l:Nat} {T:Type} {e:TypeId} {sz:Nat} {c:T->List SV} {xs:Unit->List T} (hs:s.b[l]?=some (.dyn e sz c xs)) (hle:H.le G) (qQ:∀b,dp (η l)=some b->G b=w.heap[b]?) :
  rel η (bd s.b) G (.sl sz c xs) (η l):=by
 obtain ⟨vals,p9,h4,h5,mf⟩:=D.sl l _ hs
 have dX:bd s.b l=.live:=by rw [df hs];rfl
 simp only [rel]
 refine ⟨?_,λx=>(mf x).1⟩
 obtain ⟨ad,cp,jm,FF⟩:=p9.slice
 refine ⟨ad,cp,jm,FF,?_⟩
 by_cases hn:xs ()=[]
 ·exact .inl hn
 right
 have wz:0 < (xs ()).length:=by cases hq:xs () with|nil=>exact absurd hq hn|cons=>simp
 have h3:=p9.pos wz
 rcases h3.2 with ⟨hz,FG⟩|⟨g,u9,cur,hg,_,oQ,AK,wL,lx,we⟩
 ·omega
 rw [hg] at jm
 simp at jm
 refine ⟨⟨g,0,none⟩,jm.1.symm,rfl,λj x hx=>?_⟩
 have h6:=DQ h5 h4 j x hx
 refine ⟨_,?_,eC.up hle h6,λk u hu=>?_⟩
 ·rw [j3 h6];exact h5 x (cb hx)
 ·rw [sR] at hu
  split at hu
  ·rw [lI] at hu
   have hG:=qQ g (by rw [hg];simp only [dp];rw [if_neg (by omega)])
   have hc:=h3.cells (g:=g) (by rw [hg];rfl) _ u hu
   rw [uW,cell_of_row w g _ cur e (0,0) oQ] at hc
   simp only [s5,hG,oQ,sU]
   simpa using hc
  ·cases hu
theorem ab2 {D:Den f s η H a w} {G:bO} (S:xO D G) {l:Nat} {T:Type} {e:TypeId} {sz:Nat} {c:T->List SV} {xs:Unit->List T} (hs:s.b[l]?=some (.dyn e sz c xs)) :
 rel η (bd s.b) G (.sl sz c xs) (η l):=ab1 D hs S.le (λb hb=>S.own l b (by rw [df hs];rfl) hb)
theorem aoY {q:Nat->Live} {G:bO} {T:Type} {sz:Nat} {c:T->List SV} {xs:Unit->List T} {o v:Value} {m n:Nat} (h:rel η q G (.sl sz c xs) o) (hp:Hh o sz m n v) :
  rel η q G (.sl sz c λ_=>((xs ()).take n).drop m) v:=by
 simp only [rel] at h ⊢
 obtain ⟨⟨ad,cap,rfl,h2,h3⟩,dv⟩:=h
 refine ⟨?_,dv⟩
 obtain ⟨XX,nn,c0,h4,h5,h6,nk,c',rfl,h8,h9,_⟩:=hp
 simp at h4
 obtain ⟨rfl,rfl,rfl⟩:=h4
 have hlen:(((xs ()).take n).drop m).length=n - m:=by simp;omega
 refine ⟨nk,c',by rw [hlen],by rw [hlen];exact h8,?_⟩
 by_cases zA:m < n
 ·right
  obtain ⟨bl,rfl,rfl⟩:=h9 zA
  rcases h3 with h3|⟨a0,FE,gV,qO⟩
  ·rw [h3] at h6;simp at h6;omega
  ·simp at FE;subst FE
   refine ⟨_,rfl,rfl,λj x hx=>?_⟩
   rw [lI,sR] at hx
   split at hx
   ·obtain ⟨vals,g1,g2,g3⟩:=qO _ x hx
    refine ⟨vals,g1,g2,λk u hu=>?_⟩
    rw [<-g3 k u hu]
    congr 1
    rw [Nat.add_mul];simp only;omega
   ·cases hx
 ·left
  exact m6 (by rw [hlen];omega)
theorem anO {D:Den f s η H a w} {G:bO} (S:xO D G) {l:Nat} {e:TypeId} {cs:List SV} (hs:s.b[l]?=some (.fix e cs)) :
  ∃bl vs,η l=.pointer (some ⟨bl,0,none⟩)/\Eg G bl 0 vs/\a9 η (bd s.b) H cs vs:=by
 obtain ⟨bl,vs,h3,h4,h5⟩:=D.sl l _ hs
 have hG:=S.own l bl (by rw [df hs];rfl) (by rw [h3];rfl)
 refine ⟨bl,vs.toList,h3,λj u hu=>?_,h5⟩
 simp only [s5,hG,h4]
 simpa using hu
theorem El {D:Den f s η H a w} {G:bO} (S:xO D G):∀(n:Nat) (x:SV) (v:Value),rel η (bd s.b) H x v->rel η (bd s.b) G (jQ s.b n x) v
 | 0,x,v,h=>xz (jR.refl _ _) S.le x v h
 | n+1,x,v,h=>by
  have up:∀{y:SV} {v:Value},rel η (bd s.b) H y v->rel η (bd s.b) G y v:=λ{y v} h=>xz (jR.refl _ _) S.le y v h
  have map:∀(cs:List SV) (vs:List Value),a9 η (bd s.b) H cs vs->a9 η (bd s.b) G (cs.map (jQ s.b n)) vs:=by
   intro cs
   induction cs with
   | nil=>intro vs h;simpa [a9] using h
   | cons c r ih =>
    intro vs h
    simp only [a9,mw] at h ⊢
    obtain ⟨u,us,h1,h2,h3⟩:=h
    exact ⟨u,us,h1,El S n c u h2,ih us h3⟩
  cases x with
  | own l =>
   simp only [jQ]
   split
   ·rename_i T e sz c xs hs
    simp only [rel,df hs,Slot.live] at h
    rw [h.1]
    exact ab2 S hs
   ·exact up h
  | gq l sz m k =>
   simp only [jQ]
   split
   ·rename_i T e lu c xs hs
    split
    ·rename_i eb
     obtain rfl:=pc eb
     simp only [rel,df hs,Slot.live] at h
     exact aoY (ab2 S hs) h
    ·exact up h
   ·exact up h
  | ptr l off =>
   simp only [jQ]
   split
   ·rename_i e cs hs
    simp only [rel,df hs,Slot.live] at h
    obtain ⟨bl,h1,h2⟩:=h
    obtain ⟨me,vs,h3,h4,h5⟩:=anO S hs
    rw [h1] at h3
    simp at h3;subst h3
    simp only [rel]
    exact ⟨⟨bl,0,none⟩,by rw [h2];simp,vs,map _ _ h5,h4⟩
   ·exact up h
  | fc l =>
   simp only [jQ]
   split
   ·rename_i T k c m hs
    simp only [rel,df hs,Slot.live] at h
    obtain ⟨r,es,clock,h3,h4,hM,dv⟩:=D.sl l _ hs
    have hG:=S.own l r (by rw [df hs];rfl) (by rw [h3];rfl)
    simp only [rel]
    exact ⟨.inr ⟨r,es,clock,h.1.trans h3,by rw [hG];exact h4,hM.mono λt u hu=>eC.up S.le hu⟩,dv⟩
   ·exact up h
  | fn f xs ys =>
   simp only [jQ]
   simp only [rel] at h ⊢
   obtain ⟨fs,cs,h1,h2,h3⟩:=h
   exact ⟨fs,cs,h1,map _ _ h2,map _ _ h3⟩
  | agg cs =>
   simp only [jQ]
   simp only [rel] at h ⊢
   obtain ⟨vs,h1,h2⟩:=h
   exact ⟨vs,h1,map _ _ h2⟩
  | dG cs =>
   simp only [jQ]
   simp only [rel] at h ⊢
   obtain ⟨vs,h1,h2⟩:=h
   exact ⟨vs,h1,map _ _ h2⟩
  | _=>simp only [jQ];exact up h
mutual
theorem SN {η η':Nat->Value} {q q':Nat->Live} {H H':bO}:∀(x:SV) (v:Value),x.scalar=true->rel η q H x v->rel η' q' H' x v
 | .bc c,v,_,h=>by simpa [rel] using h
 | .b x,v,_,h=>by simpa [rel] using h
 | .nb d p,v,l,_=>by simp [SV.scalar] at l
 | .ic k n,v,_,h=>by simpa [rel] using h
 | .i k n,v,_,h=>by simpa [rel] using h
 | .str x,v,_,h=>by simpa [rel] using h
 | .agg cs,v,l,h=>by
  simp only [rel,SV.scalar] at h l ⊢
  obtain ⟨vs,h1,h2⟩:=h
  exact ⟨vs,h1,NH cs vs l h2⟩
 | .dG cs,v,l,h=>by
  simp only [rel,SV.scalar] at h l ⊢
  obtain ⟨vs,h1,h2⟩:=h
  exact ⟨vs,h1,NH cs vs l h2⟩
 | .any,_,l,_=>by simp [SV.scalar] at l
 | .cell,_,l,_=>by simp [SV.scalar] at l
 | .v x,v,l,_=>by simp [SV.scalar] at l
 | .dg,v,l,_=>by simp [SV.scalar] at l
 | .ptr _ off,v,l,h=>by simp [SV.scalar] at l
 | .ig _ sz i off,v,l,h=>by simp [SV.scalar] at l
 | .own _,v,l,h=>by simp [SV.scalar] at l
 | .gq _ _ _ _,v,l,h=>by simp [SV.scalar] at l
 | .eK cs n,v,l,h=>by simp [SV.scalar] at l
 | .sl sz c xs,v,l,h=>by simp [SV.scalar] at l
 | .dE cs off,v,l,h=>by simp [SV.scalar] at l
 | .fn f first cap,v,l,h=>by simp [SV.scalar] at l
 | .oa t x,v,l,h=>by simp [SV.scalar] at l
 | .iz sz c xs,v,l,h=>by simp [SV.scalar] at l
 | .mp k c m,v,l,h=>by simp [SV.scalar] at l
 | .opt p x,v,l,h=>by simp [SV.scalar] at l
 | .fc _,v,l,h=>by simp [SV.scalar] at l
 | .iA _,v,l,h=>by simp [SV.scalar] at l
theorem NH {η η':Nat->Value} {q q':Nat->Live} {H H':bO}:∀(x:List SV) (v:List Value),Ca x=true->a9 η q H x v->a9 η' q' H' x v
 | [],v,_,h=>by simpa [a9] using h
 | s :: r,v,l,h=>by
  simp only [a9,Ca,eh] at h l ⊢
  obtain ⟨x,xs,h1,h2,h3⟩:=h
  exact ⟨x,xs,h1,SN s x l.1 h2,NH r xs l.2 h3⟩
end
theorem Z6 {fid:FuncId} {fn:Func} (F:n5 P fid fn) (args:Array Value) (w:World):(callFunc fid args).run P w=.ok (.enter fid args) w:=by
 have h:=F.body
 cases hb:fn.body with
 | none=>rw [hb] at h;cases h
 | some c =>
  have hn : ¬ fn.name = "runtime.NumGoroutine" := by simpa using F.name
  simp [callFunc,F.get,hn,hb]
theorem aa5 {c:Call} {g:Operand} {fid:FuncId} {fn:Func} (F:n5 P fid fn) (ho:o.op=.call c) (hg:c.callee=.value g) {fs cs:List Value} (hv:a.eval g=.func (.func fid) fs.toArray cs.toArray) (w:World) :
  (execOp a.eval o).run P w=.ok (.enter fid (fs++c.args.toList.map a.eval++cs).toArray) w:=by
 unfold execOp
 simp only [ho,resolve,hg,hv,Deferred.ofValue,Sem.run_bind,Sem.run_pure,Result.andThen_ok,invoke]
 have:(fs.toArray++Array.map a.eval c.args++cs.toArray)=(fs++c.args.toList.map a.eval++cs).toArray:=by
  apply nY
  simp
 rw [this]
 exact Z6 F _ w
theorem Nw {w w':World} (h:(jO w).jT w') (h1:w'.os=w.os) (h2:w'.tape=w.tape) (h3:w'.output=w.output):w.grownBy w' none:=by
 refine ⟨h1,h2,h3,?_,λb hb _=>?_⟩
 ·by_cases hs:w.heap.size=0
  ·omega
  ·have:=h (w.heap.size - 1) w.heap[w.heap.size - 1] (by simp [jO])
   have:=(ju.1 this).1
   omega
 ·have:=h b w.heap[b] (by simp [jO,hb])
  rw [this]
  simp [hb]
theorem ac9 (b:List Slot):∀(n:Nat) (x:SV),x.lb=false->jQ b n x=x
 | 0,x,_=>rfl
 | n+1,x,h=>by
  have map:∀(cs:List SV),tj cs=false->cs.map (jQ b n)=cs:=by
   intro cs
   induction cs with
   | nil=>intro _;rfl
   | cons c r ih =>
    intro h
    simp only [tj,uU] at h
    rw [mw,ac9 b n c h.1,ih h.2]
  cases x<;>simp only [SV.lb] at h<;>first|(cases h;done)|rfl|(simp only [jQ];rw [map _ h];done)|(simp only [uU] at h;simp only [jQ];rw [map _ h.1,map _ h.2])
theorem TU (b:List Slot):∀(xs:List SV),tj xs=false->xs.map (view b)=xs
 | [],_=>rfl
 | x :: r,h=>by
  simp only [tj,uU] at h
  rw [mw,TU b r h.2]
  exact congrArg (· :: r) (ac9 b 4 x h.1)
mutual
theorem am1 {q:Nat->Live}:∀(x:SV) (v:Value),rel η q H x v->rel η q H (ld x) v
 | .ptr ..,v,h=>by simp only [ld];show v.oneCell'=true;exact AA rfl h
 | .ig ..,v,h=>by simp only [ld];show v.oneCell'=true;exact AA rfl h
 | .own _,v,h=>by simp only [ld];show v.oneCell'=true;exact AA rfl h
 | .gq ..,v,h=>by simp only [ld];show v.oneCell'=true;exact AA rfl h
 | .fc _,v,h=>by simp only [ld];show v.oneCell'=true;exact AA rfl h
 | .iA _,v,h=>by simp only [ld];show v.oneCell'=true;exact AA rfl h
 | .agg cs,v,h=>by
  simp only [ld,rel] at h ⊢
  obtain ⟨vs,h1,h2⟩:=h
  exact ⟨vs,h1,DS cs vs h2⟩
 | .dG cs,v,h=>by
  simp only [ld,rel] at h ⊢
  obtain ⟨vs,h1,h2⟩:=h
  exact ⟨vs,h1,DS cs vs h2⟩
 | .fn f xs ys,v,h=>by
  simp only [ld,rel] at h ⊢
  obtain ⟨fs,cs,h1,h2,h3⟩:=h
  exact ⟨fs,cs,h1,DS xs fs h2,DS ys cs h3⟩
 | .any,v,h=>by simp only [ld];exact h
 | .cell,v,h=>by simp only [ld];exact h
 | .bc _,v,h=>by simp only [ld];exact h
 | .b _,v,h=>by simp only [ld];exact h
 | .nb _ _,v,h=>by simp only [ld];exact h
 | .ic _ _,v,h=>by simp only [ld];exact h
 | .i _ _,v,h=>by simp only [ld];exact h
 | .str _,v,h=>by simp only [ld];exact h
 | .v _,v,h=>by simp only [ld];exact h
 | .dg,v,h=>by simp only [ld];exact h
 | .eK _ _,v,h=>by simp only [ld];exact h
 | .sl _ _ _,v,h=>by simp only [ld];exact h
 | .iz _ _ _,v,h=>by simp only [ld];exact h
 | .dE _ _,v,h=>by simp only [ld];exact h
 | .oa _ _,v,h=>by simp only [ld];exact h
 | .mp _ _ _,v,h=>by simp only [ld];exact h
 | .opt _ _,v,h=>by simp only [ld];exact h
theorem DS {q:Nat->Live}:∀(x:List SV) (v:List Value),a9 η q H x v->a9 η q H (yT x) v
 | [],v,h=>h
 | x :: r,v,h=>by
  simp only [yT,a9] at h ⊢
  obtain ⟨u,us,h1,h2,h3⟩:=h
  exact ⟨u,us,h1,am1 x u h2,DS r us h3⟩
end
theorem apZ (C:X.Ok P) (D:Den f s η H a w) {c:Call} {g:Operand} {fid:FuncId} {first cap:List SV} (ho:o.op=.call c) (hg:c.callee=.value g) (hv:Vc.ev s g=.fn (.func fid) first cap)
  (h:(Hs X s.b fid (first++c.args.toList.map (Vc.ev s)++cap)).K R):fT P f s o a w R:=by
 have sH:=D.ev g
 rw [hv] at sH
 simp only [rel] at sH
 obtain ⟨fs,cs,h1,h2,h3⟩:=sH
 have oE:a9 η (bd s.b) H (first++c.args.toList.map (Vc.ev s)++cap) (fs++c.args.toList.map a.eval++cs):=jN (jN h2 (D.FB _)) h3
 unfold Hs at h
 split at h<;>first|exact h.elim|skip
 rename_i S hS
 have SS:=C.sp _ _ hS
 obtain ⟨fn,F⟩:=SS.fn
 have je:=aa5 F ho hg h1 w
 have fin:∀(α:S.α),S.pre α->R (S.res α) []->∀(Hc:bO),Hc.jT w->eC Hc (S.args α) (fs++c.args.toList.map a.eval++cs) ->
   (∀H' w' v,Hc.le H'->H'.jT w'->w.grownBy w' none->(∀b,H' b≠none->Hc b≠none\/w.heap.size<=b)->sq H' (S.res α) v->∃η' H2,Den f (s.gn o.dst (S.res α) []) η' H2 (a.put o.dst v) w')->fT P f s o a w R:=by
  intro α fh hR Hc dM n6 rN
  refine ⟨_,[],hR,λK Q hk=>?_⟩
  unfold Oper.wp
  rw [je]
  refine (SS.run α fh Hc (jO w) w _ dM (BO w) n6).mono λe w' ⟨v,H',he,g1,g2,g3,g4,g5,g6,g7,g8⟩=>?_
  subst he
  have qe:=Nw g3 g6 g7 g8
  obtain ⟨η',H2,D'⟩:=rN H' w' v g1 g2 qe (λb hb=>by
   rcases g4 b hb with h|h
   ·exact .inl h
   ·right
    unfold jO at h
    simpa using h) g5
  exact hk η' H2 w' v D'
 split at h
 ·obtain ⟨α,⟨⟨hle,lA⟩|hle,fh⟩,hR⟩:=h
  case inr =>
   refine fin α fh hR H D.hw (lL _ _ (SS.lf α) (kL hle (DS _ _ oE))) ?_
   intro H' w' v wA dM qe bB jf
   exact ⟨η,H',(D.share qe wA dM bB).put o.dst (sq.up (bO.le.refl H') jf)⟩
  cases hl:tj (first++c.args.toList.map (Vc.ev s)++cap) with
  | false =>
   rw [TU s.b _ hl] at hle
   refine fin α fh hR H D.hw (lL _ _ (SS.lf α) (kL hle oE)) ?_
   intro H' w' v wA dM qe bB jf
   exact ⟨η,H',(D.share qe wA dM bB).put o.dst (sq.up (bO.le.refl H') jf)⟩
  | true =>
  have lA:(S.res α).scalar=true\/S.fr=true:=by
   have h2:((S.res α).scalar||(S.fr||!tj (first++c.args.toList.map (Vc.ev s)++cap)))=true:=lA
   rw [hl] at h2
   simpa using h2
  have PB:a9 η (bd s.b) (jO w) ((first++c.args.toList.map (Vc.ev s)++cap).map (view s.b)) (fs++c.args.toList.map a.eval++cs):=by
   have:∀(xs:List SV) (vs:List Value),a9 η (bd s.b) H xs vs->a9 η (bd s.b) (jO w) (xs.map (view s.b)) vs:=by
    intro xs
    induction xs with
    | nil=>intro vs h;simpa [a9] using h
    | cons c r ih =>
     intro vs h
     simp only [a9,mw] at h ⊢
     obtain ⟨u,us,h1,h2,h3⟩:=h
     exact ⟨u,us,h1,El (xO.world D) 4 c u h2,ih us h3⟩
   exact this _ _ oE
  rcases lA with lA|nr
  ·refine fin α fh hR (jO w) (BO w) (lL _ _ (SS.lf α) (kL hle PB)) ?_
   intro H' w' v _ _ qe _ jf
   exact ⟨η,H,(D.grown qe).put o.dst (SN _ _ lA jf)⟩
  ·refine ⟨_,[],hR,λK Q hk=>?_⟩
   unfold Oper.wp
   rw [je]
   refine (SS.fresh nr α fh (jO w) (jO w) w _ (BO w) (BO w) (lL _ _ (SS.lf α) (kL hle PB))).mono λe w' ⟨v,N,he,g1,g2,g3,g4,g5,g6,g7,g8⟩=>?_
   subst he
   have qe:=Nw g1 g6 g7 g8
   let G:bO:=λb=>match H b with
    | some o=>some o
    | none=>N b
   have as4:H.le G:=λb o hb=>by simp only [G];rw [hb]
   have dM:G.jT w':=λb o hb=>by
    simp only [G] at hb
    split at hb
    ·rename_i o' ho;simp at hb;subst hb;exact g1 b _ (D.hw b _ ho)
    ·exact g3 b o hb
   have bB:∀b,G b≠none->H b≠none\/w.heap.size<=b:=λb hb=>by
    cases hq:H b with
    | some o=>exact .inl (by simp)
    | none =>
     right
     have:=(g4 b (by simpa only [G,hq] using hb)).1
     unfold jO at this
     simpa using this
   have X3:N.le G:=λb o hb=>by
    have hn:=(g4 b (by rw [hb];simp)).1
    have:H b=none:=by
     cases hq:H b with
     | none=>rfl
     | some o'=>have:=D.hw b o' hq;unfold jO at hn;rw [this] at hn;cases hn
    simp only [G,this];exact hb
   exact hk η G w' v ((D.share qe as4 dM bB).put o.dst (sq.up X3 g5))
 ·obtain ⟨α,⟨hle,fh⟩,hR⟩:=h
  refine fin α fh hR H D.hw (lL _ _ (SS.lf α) (kL hle oE)) ?_
  intro H' w' v wA dM qe bB jf
  exact ⟨η,H',(D.share qe wA dM bB).put o.dst (sq.up (bO.le.refl H') jf)⟩
theorem Ki (D:Den f s η H a w) {v:Value} {x:SV} (hr:∀w,(execOp a.eval o).run P w=.ok (.value v) w) (hx:rel η (bd s.b) H x v) (h:R x []):fT P f s o a w R:=eJ D hr hx h
theorem Tx (C:X.Ok P) (D:Den f s η H a w) {l:Nat} (hl:ie o.op=true->s.b[l]?=some .un) (hd:uY o.op=true->o.dst=none)
  (h:(eR X s l o.op).K R):fT P f s o a w R:=by
 cases ho:o.op with
 | move x=>rw [ho] at h;exact aej D x (.inl ho) h
 | assign x=>rw [ho] at h;exact aej D x (.inr ho) h
 | pick c x y=>rw [ho] at h;exact apU D c x y ho h
 | alloc e =>
  rw [ho] at h hl
  simp only [eR] at h
  split at h
  ·rename_i i hi;exact aoQ C D (hl rfl) e ho hi h
  ·exact h.elim
 | box e x =>
  rw [ho] at h hl
  simp only [eR] at h
  split at h
  ·rename_i i cs hi hc;exact ari C D (hl rfl) e x ho hc h
  ·exact h.elim
 | build t ps=>rw [ho] at h;exact aoR C D t ps ho h
 | buildSlice t n ps=>rw [ho] at h hl;exact alW C D (hl rfl) t n ps ho h
 | load t x=>rw [ho] at h;exact apW C D t x ho h
 | store t x y=>rw [ho] at h;exact aoN C D t x y ho (hd (by rw [ho];rfl)) h
 | nilCheck x =>
  rw [ho] at h
  simp only [eR] at h
  have hx:=D.ev x
  split at h<;>first|exact h.elim|skip
  ·rename_i l off e
   rw [e] at hx
   have:∃ad,a.eval x=.pointer (some ad):=by
    simp only [rel] at hx
    split at hx
    ·exact hx.elim
    ·exact hx
    ·obtain ⟨bl,_,h⟩:=hx;exact ⟨_,h⟩
   obtain ⟨ad,hp⟩:=this
   exact Ki D (v:=a.eval x) (λw=>by simp [execOp,ho,hp]) hx h
  ·rename_i cs off e
   rw [e] at hx
   have:∃ad,a.eval x=.pointer (some ad):=by
    simp only [rel] at hx
    obtain ⟨ad,h,_⟩:=hx;exact ⟨_,h⟩
   obtain ⟨ad,hp⟩:=this
   exact Ki D (v:=a.eval x) (λw=>by simp [execOp,ho,hp]) hx h
  ·rename_i fid fs cs e
   rw [e] at hx
   have:∃g1 g2,a.eval x=.func (.func fid) g1 g2:=by
    simp only [rel] at hx
    obtain ⟨g1,g2,h,_⟩:=hx;exact ⟨_,_,h⟩
   obtain ⟨g1,g2,hp⟩:=this
   exact Ki D (v:=a.eval x) (λw=>by simp [execOp,ho,hp]) hx h
 | binOp op t x y t'=>rw [ho] at h;exact are C D op t t' x y ho h
 | unOp op t x=>rw [ho] at h;exact asV D op t x ho h
 | convert src dst x=>rw [ho] at h;exact apV C D src dst x ho h
 | makeFunc fn first cap =>
  rw [ho] at h
  refine Ki D (v:=.func fn (first.map a.eval) (cap.map a.eval)) (λw=>by simp [execOp,ho,Instr.makeFunc]) ?_ h
  simp only [rel]
  refine ⟨first.toList.map a.eval,cap.toList.map a.eval,?_,D.FB _,D.FB _⟩
  congr 1<;>(apply nY;simp)
 | makeSlice t n m=>rw [ho] at h hl;exact al7 C D (hl rfl) t n m ho h
 | slice t x lo hi mx =>
  rw [ho] at h hl
  exact aoX C D t x lo hi mx (λhm=>hl (by cases mx<;>simp [ie] at hm ⊢)) ho h
 | fieldAddr t x j=>rw [ho] at h;exact al5 C D t x j ho h
 | field t x j=>rw [ho] at h;exact aoP C D t x j ho h
 | indexAddr t x ix=>rw [ho] at h;exact al6 C D t x ix ho h
 | index t x ix=>rw [ho] at h;exact aoO C D t x ix ho h
 | makeMap t r =>
  rw [ho] at h hl
  cases r with
  | none=>exact amZ C D (hl rfl) t ho h
  | some r=>exact h.elim
 | lookup t x ix ok=>rw [ho] at h;exact anM C D t x ix ok ho h
 | mapUpdate t x ix y=>rw [ho] at h;exact aal C D t x ix y (.inl ho) (hd (by rw [ho];rfl)) h
 | insert t x ix y=>rw [ho] at h;exact aal C D t x ix y (.inr ho) (hd (by rw [ho];rfl)) h
 | range t x=>rw [ho] at h hl;exact aoU C D (hl rfl) t x ho h
 | entry x=>rw [ho] at h;exact aoV D x ho h
 | extract x j =>
  rw [ho] at h
  simp only [eR] at h
  have hx:=D.ev x
  split at h<;>first|exact h.elim|skip
  rename_i cs e
  split at h<;>first|exact h.elim|skip
  rename_i v hv
  rw [e] at hx
  simp only [rel] at hx
  obtain ⟨vs,h1,h2⟩:=hx
  obtain ⟨u,h3,h4⟩:=uV h2 j v hv
  exact Ki D (v:=u) (λw=>by simp [execOp,ho,h1,Instr.extract,h3]) h4 h
 | call c =>
  rw [ho] at h hl
  simp only [eR] at h
  split at h<;>first|exact h.elim|skip
  ·rename_i g hg
   split at h<;>first|exact h.elim|skip
   rename_i fid first cap hv
   exact apZ C D ho hg hv h
  ·rename_i bi hg
   obtain ⟨callee,args,argTypes⟩:=c
   simp only at hg h
   subst hg
   unfold B4 at h
   split at h<;>first|exact h.elim|skip
   ·split at h<;>first|exact h.elim|skip
    rename_i t x e1 e2
    obtain ⟨x0,e3,rfl⟩:=Wv e2
    have tr:argTypes=#[t]:=by apply nY;simpa using e1
    have mK:args=#[x0]:=by apply nY;simpa using e3
    subst tr;subst mK
    exact arj C D t x0 ho h
   ·split at h<;>first|exact h.elim|skip
    rename_i t t' x y e1 e2
    split at h
    ·rename_i ht
     subst ht
     obtain ⟨x0,y0,e3,rfl,rfl⟩:=K4 e2
     have tr:argTypes=#[t,t]:=by apply nY;simpa using e1
     have mK:args=#[x0,y0]:=by apply nY;simpa using e3
     subst tr;subst mK
     exact anL C D (hl rfl) t x0 y0 ho h
    ·obtain ⟨x0,y0,e3,rfl,rfl⟩:=K4 e2
     have tr:argTypes=#[t,t']:=by apply nY;simpa using e1
     have mK:args=#[x0,y0]:=by apply nY;simpa using e3
     subst tr;subst mK
     exact am0 C D (hl rfl) t t' x0 y0 ho h
   ·split at h<;>first|exact h.elim|skip
    rename_i t t' x y e1 e2
    split at h<;>first|exact h.elim|skip
    rename_i ht
    subst ht
    obtain ⟨x0,y0,e3,rfl,rfl⟩:=K4 e2
    have tr:argTypes=#[t,t]:=by apply nY;simpa using e1
    have mK:args=#[x0,y0]:=by apply nY;simpa using e3
    subst tr;subst mK
    exact apX C D t x0 y0 ho h
   ·split at h<;>first|exact h.elim|skip
    rename_i t x e1 e2
    obtain ⟨x0,e3,rfl⟩:=Wv e2
    have tr:argTypes=#[t]:=by apply nY;simpa using e1
    have mK:args=#[x0]:=by apply nY;simpa using e3
    subst tr;subst mK
    exact aoW C D t x0 ho h
   ·split at h<;>first|exact h.elim|skip
    rename_i x y e2
    obtain ⟨x0,y0,e3,rfl,rfl⟩:=K4 e2
    have mK:args=#[x0,y0]:=by apply nY;simpa using e3
    subst mK
    exact agS D .min min argTypes x0 y0 (.inl ⟨rfl,rfl⟩) ho h
    rename_i x y z e2
    obtain ⟨x0,y0,z0,e3,rfl,rfl,rfl⟩:=agW e2
    have mK:args=#[x0,y0,z0]:=by apply nY;simpa using e3
    subst mK
    exact afp D .min min argTypes x0 y0 z0 (.inl ⟨rfl,rfl⟩) ho h
   ·split at h<;>first|exact h.elim|skip
    rename_i x y e2
    obtain ⟨x0,y0,e3,rfl,rfl⟩:=K4 e2
    have mK:args=#[x0,y0]:=by apply nY;simpa using e3
    subst mK
    exact agS D .max max argTypes x0 y0 (.inr ⟨rfl,rfl⟩) ho h
    rename_i x y z e2
    obtain ⟨x0,y0,z0,e3,rfl,rfl,rfl⟩:=agW e2
    have mK:args=#[x0,y0,z0]:=by apply nY;simpa using e3
    subst mK
    exact afp D .max max argTypes x0 y0 z0 (.inr ⟨rfl,rfl⟩) ho h
   ·split at h<;>first|exact h.elim|skip
    rename_i t x e1 e2
    obtain ⟨x0,e3,rfl⟩:=Wv e2
    have tr:argTypes=#[t]:=by apply nY;simpa using e1
    have mK:args=#[x0]:=by apply nY;simpa using e3
    subst tr;subst mK
    exact ark C D t x0 ho h
 | _=>rw [ho] at h;exact h.elim
end
def eU.out:eU->SV->List (Nat × Slot)->Prop
 | .fail,_,_=>False
 | .pure x u,y,v=>y=x/\v=u
 | .l7 p x u,y,v=>p ()/\y=x/\v=u
 | .ex T p x u,y,v=>∃t,p t/\y=x t/\v=u t
theorem eU.PC (A:eU) (R:SV->List (Nat × Slot)->Prop):A.K R↔∃x u,A.out x u/\R x u:=by
 cases A with
 | fail=>simp [eU.K,eU.out]
 | pure x u=>simp only [eU.K,eU.out];exact ⟨λh=>⟨_,_,⟨rfl,rfl⟩,h⟩,λ⟨_,_,⟨h1,h2⟩,h⟩=>by subst h1;subst h2;exact h⟩
 | l7 p x u=>simp only [eU.K,eU.out];exact ⟨λh=>⟨_,_,⟨h.1.out,rfl,rfl⟩,h.2⟩,λ⟨_,_,⟨h0,h1,h2⟩,h⟩=>by subst h1;subst h2;exact ⟨⟨h0⟩,h⟩⟩
 | ex T p x u=>simp only [eU.K,eU.out];exact ⟨λ⟨t,h⟩=>⟨_,_,⟨t,h.1.out,rfl,rfl⟩,h.2⟩,λ⟨_,_,⟨t,h0,h1,h2⟩,h⟩=>by subst h1;subst h2;exact ⟨t,⟨h0⟩,h⟩⟩
def xP (ops:List Oper) (o:Oper):Option (Option Tmp × Bool) :=
 match o.guard with
 | none=>none
 | some (j,want)=>some ((ops[j]?).bind (·.dst),want)
def nf:SV->Option SV
 | .bc c=>some (.bc c)
 | .b x=>some (.bc (x ()))
 | .dG []=>some (.dG [])
 | _=>none
def nE (want:Bool):SV->Bool
 | .bc c=>c == want
 | _=>false
def L5 (X:Ctx) (o:Oper) (l:Nat) (s s':St):Prop:=∃x u,(eR X s l o.op).out x u/\s'=s.gn o.dst x u
def Out (X:Ctx) (ops:List Oper) (o:Oper) (l:Nat) (s s':St):Prop :=
 match xP ops o with
 | none=>L5 X o l s s'
 | some (none,_)=>False
 | some (some g,want)=>∃y v,s.t[g]?=some y/\nf y=some v /\
  match nE want v with
  | true=>L5 X o l { s with t:=s.t.set g v } s'
  | false=>s'=({ s with t:=s.t.set g v }:St).gn o.dst (.dG []) []
def zi (X:Ctx) (o:Oper) (l:Nat) (s:St) (k:St->Prop):Prop:=(eR X s l o.op).K λx u=>k (s.gn o.dst x u)
def wg (o:Oper) (s:St) (k:St->Prop):Prop:=k (s.gn o.dst (.dG []) [])
def PD (X:Ctx) (ops:List Oper) (o:Oper) (l:Nat) (s:St) (k:St->Prop):Prop :=
 match xP ops o with
 | none=>zi X o l s k
 | some (none,_)=>False
 | some (some g,want)=>match s.t[g]? with
  | some (.bc c)=>match c,want with
   | true,true=>zi X o l s k
   | false,false=>zi X o l s k
   | _,_=>wg o s k
  | some (.b x)=>match want with
   | true=>(A7 x->zi X o l { s with t:=s.t.set g (.bc true) } k)/\(A8 x->wg o { s with t:=s.t.set g (.bc false) } k)
   | false=>(A7 x->wg o { s with t:=s.t.set g (.bc true) } k)/\(A8 x->zi X o l { s with t:=s.t.set g (.bc false) } k)
  | some (.dG [])=>wg o s k
  | _=>False
theorem B5 (X:Ctx) (o:Oper) (l:Nat) (s:St) (k:St->Prop):zi X o l s k↔∃s',L5 X o l s s'/\k s':=by
 unfold zi L5
 rw [eU.PC]
 exact ⟨λ⟨x,u,h1,h2⟩=>⟨_,⟨x,u,h1,rfl⟩,h2⟩,λ⟨_,⟨x,u,h1,e⟩,h2⟩=>by subst e;exact ⟨x,u,h1,h2⟩⟩
theorem Ow {α:Type 1} (l:List α) (i:Nat) (x:α) (h:l[i]?=some x):l.set i x=l:=by
 apply oy
 intro j
 rw [ja]
 split
 ·rename_i e;subst e
  have:=(bW.1 h).1
  rw [if_pos this,h]
 ·rfl
theorem aa6 (X:Ctx) (ops:List Oper) (o:Oper) (l:Nat) (s:St) (k:St->Prop):PD X ops o l s k↔∃s',Out X ops o l s s'/\k s':=by
 unfold PD Out
 split
 ·exact B5 X o l s k
 ·simp
 ·rename_i g want hg
  split
  ·rename_i c hc
   have hs:({ s with t:=s.t.set g (.bc c) }:St)=s:=by rw [Ow _ _ _ hc]
   split
   ·rw [B5]
    exact ⟨λ⟨s',h1,h2⟩=>⟨s',⟨_,_,hc,rfl,by simpa [nE,hs] using h1⟩,h2⟩,λ⟨s',⟨y,v,e1,e2,h1⟩,h2⟩=>by
     rw [hc] at e1;simp at e1;subst e1;simp [nf] at e2;subst e2;exact ⟨s',by simpa [nE,hs] using h1,h2⟩⟩
   ·rw [B5]
    exact ⟨λ⟨s',h1,h2⟩=>⟨s',⟨_,_,hc,rfl,by simpa [nE,hs] using h1⟩,h2⟩,λ⟨s',⟨y,v,e1,e2,h1⟩,h2⟩=>by
     rw [hc] at e1;simp at e1;subst e1;simp [nf] at e2;subst e2;exact ⟨s',by simpa [nE,hs] using h1,h2⟩⟩
   ·rename_i n1 n2
    have hw:nE want (.bc c)=false:=by cases c<;>cases want<;>simp_all [nE]
    unfold wg
    exact ⟨λh=>⟨_,⟨_,_,hc,rfl,by rw [hw,hs]⟩,h⟩,λ⟨s',⟨y,v,e1,e2,h1⟩,h2⟩=>by
     rw [hc] at e1;simp at e1;subst e1;simp [nf] at e2;subst e2;rw [hw,hs] at h1;simp only at h1;subst h1;exact h2⟩
  ·rename_i x hx
   have key:∀(A B:St->Prop),(((A7 x->A { s with t:=s.t.set g (.bc true) })/\(A8 x->B { s with t:=s.t.set g (.bc false) })) ↔
     (if x () then A { s with t:=s.t.set g (.bc (x ())) } else B { s with t:=s.t.set g (.bc (x ())) })):=by
    intro A B
    cases h:x ()
    ·simp only [jE,if_false]
     exact ⟨λhh=>hh.2 ⟨h⟩,λhh=>⟨λt=>(by have:=t.out;rw [h] at this;cases this),λ_=>hh⟩⟩
    ·simp only [if_true]
     exact ⟨λhh=>hh.1 ⟨h⟩,λhh=>⟨λ_=>hh,λt=>(by have:=t.out;rw [h] at this;cases this)⟩⟩
   have Ir:∀(Z:SV->Prop),(∃y v,s.t[g]?=some y/\nf y=some v/\Z v)↔Z (.bc (x ())):=by
    intro Z
    exact ⟨λ⟨y,v,e1,e2,h⟩=>by rw [hx] at e1;simp at e1;subst e1;simp [nf] at e2;subst e2;exact h,λh=>⟨_,_,hx,rfl,h⟩⟩
   split
   ·rw [key (λs=>zi X o l s k) (λs=>wg o s k)]
    constructor
    ·intro h
     cases hb:x ()
     ·rw [hb] at h;simp only [jE,if_false] at h
      exact ⟨_,(Ir _).2 (by rw [hb];simp [nE]),h⟩
     ·rw [hb] at h;simp only [if_true] at h
      obtain ⟨s',h1,h2⟩:=(B5 X o l _ k).1 h
      exact ⟨s',(Ir _).2 (by rw [hb];simpa [nE] using h1),h2⟩
    ·rintro ⟨s',h1,h2⟩
     have h1:=(Ir _).1 h1
     cases hb:x ()
     ·rw [hb] at h1;simp [nE] at h1;subst h1
      simpa only [jE,if_false,wg] using h2
     ·rw [hb] at h1;simp [nE] at h1
      simp only [if_true]
      exact (B5 X o l _ k).2 ⟨s',h1,h2⟩
   ·rw [key (λs=>wg o s k) (λs=>zi X o l s k)]
    constructor
    ·intro h
     cases hb:x ()
     ·rw [hb] at h;simp only [jE,if_false] at h
      obtain ⟨s',h1,h2⟩:=(B5 X o l _ k).1 h
      exact ⟨s',(Ir _).2 (by rw [hb];simpa [nE] using h1),h2⟩
     ·rw [hb] at h;simp only [if_true] at h
      exact ⟨_,(Ir _).2 (by rw [hb];simp [nE]),h⟩
    ·rintro ⟨s',h1,h2⟩
     have h1:=(Ir _).1 h1
     cases hb:x ()
     ·rw [hb] at h1;simp [nE] at h1
      simp only [jE,if_false]
      exact (B5 X o l _ k).2 ⟨s',h1,h2⟩
     ·rw [hb] at h1;simp [nE] at h1;subst h1
      simpa only [if_true,wg] using h2
  ·rename_i hx
   have hs:({ s with t:=s.t.set g (.dG []) }:St)=s:=by rw [Ow _ _ _ hx]
   unfold wg
   exact ⟨λh=>⟨_,⟨_,_,hx,rfl,by rw [hs];simp [nE]⟩,h⟩,λ⟨s',⟨y,v,e1,e2,h1⟩,h2⟩=>by
     rw [hx] at e1;simp at e1;subst e1;simp [nf] at e2;subst e2;rw [hs] at h1;simp [nE] at h1;subst h1;exact h2⟩
  ·rename_i n1 n2 n3
   refine ⟨λh=>h.elim,λ⟨s',⟨y,v,e1,e2,_⟩,_⟩=>?_⟩
   unfold nf at e2
   split at e2
   ·exact n1 _ e1
   ·exact n2 _ e1
   ·exact n3 e1
   ·cases e2
section
variable {P:Program} {X:Ctx} {f:Fr} {s:St} {η:Nat->Value} {H:bO} {a:Act} {w:World} {o:Oper}
theorem Den.ael (D:Den f s η H a w) {g:Tmp} {d:Bool} {p:Unit->Prop} (hy:s.t[g]?=some (.nb d p)):∃c,a.tmps.getD g undef=.bool c/\(c=d->p ()):=by
 have hr:=D.Ek g
 rw [hy] at hr
 simpa only [pe,rel] using hr
theorem Den.aem (D:Den f s η H a w) {g:Tmp} {y v:SV} (hy:s.t[g]?=some y) (sI:rel η (bd s.b) H v (a.tmps.getD g undef)) :
  Den f { s with t:=s.t.set g v } η H a w:=by
 refine { D with t:=?_ }
 obtain ⟨u,h1,h2⟩:=uV D.t g y hy
 have h3:=yL D.t g (x:=v) (u:=u) (by
  have:a.tmps.getD g undef=u:=by
   have h3:a.tmps[g]?=some u:=by simpa using h1
   simp [JM,h3]
  rw [this] at sI
  exact sI)
 have h4:a.tmps.toList.set g u=a.tmps.toList:=by
  apply oy
  intro j
  rw [ja]
  split
  ·rename_i e;subst e
   have:=(bW.1 h1).1
   rw [if_pos this,h1]
  ·rfl
 rwa [h4] at h3
theorem Den.guard (D:Den f s η H a w) {g:Tmp} {y v:SV} (hy:s.t[g]?=some y) (hv:nf y=some v) :
  Den f { s with t:=s.t.set g v } η H a w/\rel η (bd s.b) H v (a.tmps.getD g undef):=by
 have hr:=D.Ek g
 rw [hy] at hr
 simp only [pe] at hr
 have sI:rel η (bd s.b) H v (a.tmps.getD g undef):=by
  unfold nf at hv
  split at hv
  ·simp at hv;subst hv;exact hr
  ·simp at hv;subst hv;simpa only [rel] using hr
  ·simp at hv;subst hv;exact hr
  ·cases hv
 refine ⟨{ D with t:=?_ },sI⟩
 obtain ⟨u,h1,h2⟩:=uV D.t g y hy
 have h3:=yL D.t g (x:=v) (u:=u) (by
  have:a.tmps.getD g undef=u:=by
   have h3:a.tmps[g]?=some u:=by simpa using h1
   simp [JM,h3]
  rw [this] at sI
  exact sI)
 have h4:a.tmps.toList.set g u=a.tmps.toList:=by
  apply oy
  intro j
  rw [ja]
  split
  ·rename_i e;subst e
   have:=(bW.1 h1).1
   rw [if_pos this,h1]
  ·rfl
 rw [h4] at h3
 exact h3
theorem ab3 (D:Den f s η H a w) {g:Tmp} {y:SV} (hy:s.t[g]?=some y):a.tmps[g]?=some (a.tmps.getD g undef):=by
 obtain ⟨u,h1,h2⟩:=uV D.t g y hy
 have h3:a.tmps[g]?=some u:=by simpa using h1
 simp [JM,h3]
def Ul (o:Oper) (l:Nat) (s:St):Prop:=ie o.op=true->s.b[l]?=some .un
def J3 (o:Oper):Prop:=uY o.op=true->o.dst=none
theorem JI (C:X.Ok P) (D:Den f s η H a w) {ops:Array Oper} {i:Nat} (hi:ops[i]?=some o) {l:Nat} (hl:Ul o l s) (hs:J3 o) {s':St} (h:Out X ops.toList o l s s')
  {Q:Exit->Act->World->Prop} {K:Act->World->Prop} (hK:∀η' H' a' w',Den f s' η' H' a' w'->K a' w'):wpOp P ops Q i K a w:=by
 have did:∀{s0:St},Den f s0 η H a w->s0.b=s.b->L5 X o l s0 s'->o.wp P a w K Q:=by
  intro s0 D0 hb ⟨x,u,ho,e⟩
  have:=Tx (R:=λx' u'=>x'=x/\u'=u) C D0 (l:=l) (λha=>by rw [hb];exact hl ha) hs ((eU.PC _ _).2 ⟨x,u,ho,rfl,rfl⟩)
  obtain ⟨x',u',⟨rfl,rfl⟩,L6⟩:=this
  exact L6 K Q λη' H' w' v D'=>hK η' H' _ w' (by rw [e];exact D')
 have aro:∀{j:Nat} {want:Bool},o.guard=some (j,want)->Region.wanted o (yielded ops a.tmps)=(yielded ops a.tmps j == some want):=λhg=>by simp [Region.wanted,hg]
 unfold wpOp
 rw [hi]
 simp only
 unfold Out xP at h
 split at h
 ·rename_i hg
  have XW:o.guard=none:=by
   cases hq:o.guard with
   | none=>rfl
   | some p=>rw [hq] at hg;cases hg
  rw [if_pos (by simp [Region.wanted,XW])]
  exact .inl (did D rfl h)
 ·exact h.elim
 ·rename_i g want hg
  obtain ⟨y,v,hy,hv,h⟩:=h
  cases hq:o.guard with
  | none=>rw [hq] at hg;cases hg
  | some p =>
   obtain ⟨j,Vv⟩:=p
   rw [hq] at hg
   simp at hg
   obtain ⟨FJ,rfl⟩:=hg
   obtain ⟨D0,hr⟩:=D.guard hy hv
   have rS:yielded ops a.tmps j=match a.tmps.getD g undef with|.bool b=>some b|_=>none:=by
    have zw:(ops[j]?).bind (·.dst)=some g:=by simpa using FJ
    unfold yielded
    rw [zw]
    simp only [Option.bind_some,ab3 D hy]
    cases a.tmps.getD g undef<;>rfl
   rw [aro hq,rS]
   have ka:(∃c,v=.bc c)\/v=.dG []:=by
    unfold nf at hv
    split at hv<;>simp at hv
    ·exact .inl ⟨_,hv.symm⟩
    ·exact .inl ⟨_,hv.symm⟩
    ·exact .inr hv.symm
   rcases ka with ⟨c,rfl⟩|rfl
   ·simp only [rel] at hr
    rw [hr]
    simp only
    by_cases hc:c=Vv
    ·subst hc
     simp only [nE,beq_self_eq_true] at h
     simp only [beq_self_eq_true,if_true]
     exact .inl (did D0 rfl h)
    ·have h1:(c == Vv)=false:=by simpa using hc
     have h2:(some c == some Vv)=false:=by simpa using hc
     rw [if_neg (by rw [h2];simp)]
     simp only [nE,h1] at h
     refine hK η H _ w ?_
     rw [h]
     exact Den.put D0 o.dst (by simp only [rel];exact ⟨[],rfl,by simp [a9]⟩)
   ·have hnb:∀b,a.tmps.getD g undef≠.bool b:=by
     intro b hb
     simp only [rel] at hr
     obtain ⟨vs,h1,_⟩:=hr
     rw [hb] at h1;cases h1
    rw [if_neg (by
     cases rT:a.tmps.getD g undef with
     | bool b=>exact absurd rT (hnb b)
     | _=>simp)]
    simp only [nE] at h
    refine hK η H _ w ?_
    rw [h]
    exact Den.put D0 o.dst (by simp only [rel];exact ⟨[],rfl,by simp [a9]⟩)
theorem anP {K:Act->World->Prop} (h:o.wp P a w K λ_ _ _=>False):∃a' w',K a' w':=by
 unfold Oper.wp at h
 generalize (execOp a.eval o).run P w=r at h
 cases r with
 | ok n w' =>
  cases n<;>simp only [Oper.upon] at h
  case value v=>exact ⟨_,_,h⟩
  case skip=>exact ⟨_,_,h⟩
  case defer d=>exact ⟨_,_,h⟩
  case enter g args =>
   obtain ⟨e,w',fr,hR,_⟩:=h []
   cases e with
   | returned v=>exact ⟨_,_,hR⟩
   | panicked c=>exact hR.elim
   | outgrown=>obtain ⟨_,_,h⟩:=hR;exact h.elim
  case row row args =>
   obtain ⟨v,w',hR,_⟩:=h default []
   exact ⟨_,_,hR⟩
 | halt x w'=>cases x<;>simp only [Oper.upon] at h
def Good (f:Fr) (s:St):Prop:=∃η H a w,Den f s η H a w
theorem Good.out (C:X.Ok P) (G:Good f s) {ops:Array Oper} {i:Nat} (hi:ops[i]?=some o) {l:Nat} (hl:Ul o l s) (hs:J3 o) {s':St} (h:Out X ops.toList o l s s'):Good f s':=by
 obtain ⟨η,H,a,w,D⟩:=G
 have:=JI C D hi hl hs h (Q:=λ_ _ _=>False) (K:=λ_ _=>Good f s') (λη' H' a' w' D'=>⟨η',H',a',w',D'⟩)
 unfold wpOp at this
 rw [hi] at this
 simp only at this
 split at this
 ·rcases this with this|⟨_,_,_,h⟩
  ·obtain ⟨_,_,h⟩:=anP this;exact h
  ·exact h.elim
 ·exact this
end
def lY (op:Op):List Tmp:=op.operands.toList.filterMap λ|.tmp t=>some t|_=>none
def gT (ops:List Oper) (o:Oper):Option Tmp:=(xP ops o).bind (·.1)
def vp:Op->Bool
 | .load ..|.store ..|.indexAddr ..|.slice ..|.call _|.lookup ..|.mapUpdate ..|.insert ..|.entry _=>true
 | _=>false
def ab4:Op->Bool
 | .call c=>match c.callee with
  | .builtin .append=>true
  | .builtin .copy=>true
  | .builtin .clear=>true
  | _=>false
 | _=>false
def qf:Op->Bool
 | .store ..|.mapUpdate ..|.insert ..=>true
 | op=>ab4 op
def deep:Op->Bool
 | .call c=>match c.callee with
  | .value _=>true
  | _=>false
 | _=>false
def tmpsOf (xs:List Operand):List Tmp:=xs.filterMap λ|.tmp t=>some t|_=>none
def Cb:List Operand->Option Tmp
 | .tmp t :: _=>some t
 | _=>none
def lh:Op->Option Tmp
 | .store _ x _=>match x with|.tmp t=>some t|_=>none
 | .mapUpdate _ x _ _=>match x with|.tmp t=>some t|_=>none
 | .insert _ x _ _=>match x with|.tmp t=>some t|_=>none
 | .call c=>match c.callee with
  | .builtin .append=>Cb c.args.toList
  | .builtin .copy=>Cb c.args.toList
  | .builtin .clear=>Cb c.args.toList
  | _=>none
 | _=>none
def iF:Op->Option (List Tmp)
 | .load _ x=>match x with|.tmp t=>some [t]|_=>none
 | .store _ x _=>match x with|.tmp t=>some [t]|_=>none
 | .lookup _ x _ _=>match x with|.tmp t=>some [t]|_=>none
 | .entry x=>match x with|.tmp t=>some [t]|_=>none
 | .mapUpdate _ x _ _=>match x with|.tmp t=>some [t]|_=>none
 | .insert _ x _ _=>match x with|.tmp t=>some [t]|_=>none
 | .indexAddr _ x _=>match x with|.tmp t=>some [t]|_=>none
 | .slice _ x _ _ mx=>match x,mx with|.tmp t,none=>some [t]|_,_=>none
 | .call c=>match c.callee with
  | .builtin _=>some (tmpsOf c.args.toList)
  | _=>none
 | _=>none
theorem al9 {xs:List Operand} {t:Tmp} (h:Cb xs=some t):t∈tmpsOf xs:=by
 unfold Cb at h
 split at h
 ·simp at h;subst h;simp [tmpsOf]
 ·cases h
theorem ab5 {op:Op} {t:Tmp} {ys:List Tmp} (h:lh op=some t) (h':iF op=some ys):t∈ys:=by
 cases op<;>try (cases h;done)
 case store ty x z=>cases x<;>simp [lh] at h;subst h;simp [iF] at h';subst h';simp
 case mapUpdate ty x y z=>cases x<;>simp [lh] at h;subst h;simp [iF] at h';subst h';simp
 case insert ty x y z=>cases x<;>simp [lh] at h;subst h;simp [iF] at h';subst h';simp
 case call c =>
  cases hc:c.callee with
  | value g=>simp [lh,hc] at h
  | invoke r m=>simp [lh,hc] at h
  | builtin b =>
   simp only [iF,hc,tO] at h'
   subst h'
   cases b<;>simp [lh,hc] at h<;>exact al9 h
def newVar:Op->Bool
 | .alloc _|.box ..|.buildSlice ..|.makeSlice ..|.makeMap ..|.range ..=>true
 | .call c=>match c.callee with
  | .builtin .append=>true
  | .value _=>true
  | _=>false
 | _=>false
def xQ:Op->Option Tmp
 | .fieldAddr _ x _=>match x with|.tmp t=>some t|_=>none
 | .indexAddr _ x _=>match x with|.tmp t=>some t|_=>none
 | .nilCheck x=>match x with|.tmp t=>some t|_=>none
 | .move x=>match x with|.tmp t=>some t|_=>none
 | .assign x=>match x with|.tmp t=>some t|_=>none
 | .slice _ x _ _ mx=>match x,mx with|.tmp t,none=>some t|_,_=>none
 | _=>none
def KC (o:Oper) (t:Tmp):Bool:=match o.dst with|some d=>Nat.beq d t|none=>false
theorem Tz {o:Oper} {t:Tmp}:KC o t=true↔o.dst=some t:=by
 unfold KC
 cases o.dst with
 | none=>simp
 | some d=>simp only [tO];exact ⟨pc,λh=>h ▸ Tr d⟩
def uc (
     r:Tmp->Option (List Tmp)) (t:Tmp):List Oper->Option (List Tmp)
 | []=>some [t]
 | o :: os=>match KC o t with
  | false=>uc r t os
  | true=>match newVar o.op with
   | true=>uc r t os
   | false=>match xQ o.op with
    | none=>none
    | some x=>match r x,uc r t os with
     | some a,some b=>some (a++b)
     | _,_=>none
def mL (ops:List Oper):Nat->Tmp->Option (List Tmp)
 | 0,_=>none
 | n+1,t=>uc (mL ops n) t ops
theorem Oi {r r':Tmp->Option (List Tmp)} (h:∀x a,r x=some a->r' x=some a) {t:Tmp}:∀{os:List Oper} {A:List Tmp},uc r t os=some A->uc r' t os=some A
 | [],A,e=>e
 | o :: os,A,e=>by
  unfold uc at e ⊢
  split at e
  ·exact Oi h e
  ·split at e
   ·exact Oi h e
   ·split at e
    ·cases e
    ·split at e
     ·rename_i a b h1 h2
      simp only [h _ _ h1,Oi h h2]
      exact e
     ·cases e
theorem ab6 {ops:List Oper}:∀{n:Nat} {t:Tmp} {A:List Tmp},mL ops n t=some A->mL ops (n+1) t=some A
 | 0,t,A,h=>by cases h
 | n+1,t,A,h=>Oi (λ_ _=>ab6) h
theorem Oj {r:Tmp->Option (List Tmp)} {t:Tmp}:∀{os:List Oper} {A:List Tmp},uc r t os=some A->t∈A
 | [],A,e=>by cases e;simp
 | o :: os,A,e=>by
  unfold uc at e
  split at e
  ·exact Oj e
  ·split at e
   ·exact Oj e
   ·split at e
    ·cases e
    ·split at e
     ·rename_i a b h1 h2
      cases e
      exact D8 _ (Oj h2)
     ·cases e
theorem JX {r:Tmp->Option (List Tmp)} {t:Tmp} {o:Oper} (hd:o.dst=some t):∀{os:List Oper} {A:List Tmp},o∈os->uc r t os=some A ->
  newVar o.op=true\/∃x B,xQ o.op=some x/\r x=some B/\∀y∈B,y∈A
 | [],A,h,_=>by cases h
 | o' :: os,A,h,e=>by
  unfold uc at e
  split at e
  ·rename_i h1
   rcases eB.1 h with rfl|h
   ·rw [Tz.2 hd] at h1;cases h1
   ·exact JX hd h e
  ·split at e
   ·rename_i h1 h2
    rcases eB.1 h with rfl|h
    ·exact .inl h2
    ·exact JX hd h e
   ·split at e
    ·cases e
    ·rename_i x h3
     split at e
     ·rename_i a b h4 h5
      cases e
      rcases eB.1 h with rfl|h
      ·exact .inr ⟨x,a,h3,h4,λy hy=>B1 _ hy⟩
      ·rcases JX hd h h5 with h6|⟨x,B,h6,h7,h8⟩
       ·exact .inl h6
       ·exact .inr ⟨x,B,h6,h7,λy hy=>D8 _ (h8 y hy)⟩
     ·cases e
def xR:List Nat->List Nat->Bool
 | [],_=>true
 | a :: r,l=>(l.all λb=>!Nat.beq a b)&&xR r l
theorem ada:∀{x y:List Nat},xR x y=true->∀l∈x,l∉y
 | [],_,_,l,hl=>by cases hl
 | a :: r,y,h,l,hl=>by
  simp only [xR,eh] at h
  rcases eB.1 hl with rfl|hl
  ·intro hy
   have:=m8.1 h.1 l hy
   simp at this
  ·exact ada h.2 l hl
def Ew (ops:List Oper) (A:List Tmp):List Tmp->Bool
 | []=>true
 | y :: r=>(match mL ops 8 y with
  | some B=>xR A B
  | none=>false)&&Ew ops A r
def Rd (ops:List Oper) (p j:Oper):Bool :=
 match lh p.op,iF j.op with
 | some x,some ys=>match mL ops 8 x with
  | some A=>Ew ops A ys
  | none=>false
 | _,_=>false
structure Is (ops:List Oper) (p j:Oper) (x:Tmp) (ys:List Tmp):Prop where
 p:lh p.op=some x
 j:iF j.op=some ys
 ax:∃A,mL ops 8 x=some A
 d:∀A,mL ops 8 x=some A->∀y∈ys,∃B,mL ops 8 y=some B/\xR A B=true
theorem aa7 {ops:List Oper} {A:List Tmp}:∀{ys:List Tmp},Ew ops A ys=true->∀y∈ys,∃B,mL ops 8 y=some B/\xR A B=true
 | [],_,y,hy=>by cases hy
 | z :: r,h,y,hy=>by
  simp only [Ew,eh] at h
  rcases eB.1 hy with rfl|hy
  ·have h1:=h.1
   split at h1
   ·rename_i B hB;exact ⟨B,hB,h1⟩
   ·cases h1
  ·exact aa7 h.2 y hy
theorem ab7 {ops:List Oper} {p j:Oper} (h:Rd ops p j=true):∃x ys,Is ops p j x ys:=by
 unfold Rd at h
 split at h
 ·rename_i x ys h1 h2
  split at h
  ·rename_i A h3
   exact ⟨x,ys,h1,h2,⟨A,h3⟩,λA' e1=>by rw [h3] at e1;cases e1;exact aa7 h⟩
  ·cases h
 ·cases h
def O9 (ops:List Oper) (p j:Oper):Bool :=
 (match p.dst with|some d=>!(lY j.op).contains d&&gT ops j != some d&&j.dst != some d|none=>true) &&
 (match j.dst with|some d=>!(lY p.op).contains d&&gT ops p != some d|none=>true) &&
 (match gT ops p with|some g=>!(lY j.op).contains g|none=>true) &&
 (match gT ops j with|some g=>!(lY p.op).contains g|none=>true)
def indep (ops:List Oper) (p j:Oper):Bool :=
 O9 ops p j&&((!(qf p.op&&vp j.op)||Rd ops p j)&&(!(qf j.op&&vp p.op)||Rd ops j p))
structure AB (ops:List Oper) (p j:Oper):Prop where
 d1:∀d,p.dst=some d->d∉lY j.op
 d2:∀d,p.dst=some d->gT ops j≠some d
 d3:∀d,p.dst=some d->j.dst≠some d
 e1:∀d,j.dst=some d->d∉lY p.op
 e2:∀d,j.dst=some d->gT ops p≠some d
 g1:∀g,gT ops p=some g->g∉lY j.op
 g2:∀g,gT ops j=some g->g∉lY p.op
structure xL (ops:List Oper) (p j:Oper):Prop where
 t:AB ops p j
 w1:qf p.op=true->vp j.op=false\/∃x ys,Is ops p j x ys
 w2:qf j.op=true->vp p.op=false\/∃x ys,Is ops j p x ys
theorem aan {ops:List Oper} {p j:Oper} (h:O9 ops p j=true):AB ops p j:=by
 unfold O9 at h
 simp only [eh] at h
 obtain ⟨⟨⟨h1,h2⟩,h3⟩,h4⟩:=h
 constructor
 ·intro d hd;rw [hd] at h1;simp at h1;exact h1.1.1
 ·intro d hd;rw [hd] at h1;simp at h1;exact h1.1.2
 ·intro d hd;rw [hd] at h1;simp at h1;exact h1.2
 ·intro d hd;rw [hd] at h2;simp at h2;exact h2.1
 ·intro d hd;rw [hd] at h2;simp at h2;exact h2.2
 ·intro g hg;rw [hg] at h3;simpa using h3
 ·intro g hg;rw [hg] at h4;simpa using h4
theorem NO {ops:List Oper} {p j:Oper} (h:indep ops p j=true):xL ops p j:=by
 unfold indep at h
 simp only [eh,vU,pU,Bool.and_eq_false_iff] at h
 obtain ⟨h0,h5,h6⟩:=h
 refine ⟨aan h0,?_,?_⟩
 ·intro hw
  rcases h5 with (h5|h5)|h
  ·rw [hw] at h5;cases h5
  ·exact .inl h5
  ·exact .inr (ab7 h)
 ·intro hw
  rcases h6 with (h6|h6)|h
  ·rw [hw] at h6;cases h6
  ·exact .inl h6
  ·exact .inr (ab7 h)
theorem AB.symm {ops:List Oper} {p j:Oper} (h:AB ops p j):AB ops j p :=
 ⟨h.e1,h.e2,λd hd e=>h.d3 d e hd,h.d1,h.d2,h.g2,h.g1⟩
theorem xL.symm {ops:List Oper} {p j:Oper} (h:xL ops p j):xL ops j p:=⟨h.t.symm,h.w2,h.w1⟩
theorem anQ {s s':St} {x:Operand} (h:∀t,x=.tmp t->s.t[t]?=s'.t[t]?):ev s x=ev s' x:=by
 cases x with
 | tmp t=>simp only [ev,h t rfl]
 | _=>rfl
theorem NI {c:Call} {x:Operand} (h:x∈c.args.toList):x∈c.operands:=by
 unfold Call.operands
 exact Array.mem_append.2 (.inr (Array.mem_toList_iff.1 h))
theorem Z7 (X:Ctx) {s s':St} (l:Nat) (op:Op) (h:∀t∈lY op,s.t[t]?=s'.t[t]?) (hb:s.b=s'.b):eR X s l op=eR X s' l op:=by
 have e:∀x∈op.operands,ev s x=ev s' x:=λx hx=>anQ λt ht=>h t (by
  subst ht
  exact Ec.2 ⟨.tmp t,by simpa using hx,rfl⟩)
 have afr:∀ps:Array (Nat × Operand),(∀x∈ps.map (·.2),ev s x=ev s' x)->(ps.toList.map λp=>(p.1,ev s p.2))=(ps.toList.map λp=>(p.1,ev s' p.2)):=λps hp =>
  vS λp hm=>by rw [hp p.2 (Array.mem_map.2 ⟨p,by simpa using hm,rfl⟩)]
 cases op<;>simp only [Op.operands] at e<;>simp only [eR,<-hb]
 case call c =>
  have ha:c.args.toList.map (ev s)=c.args.toList.map (ev s'):=vS λx hx=>e x (NI hx)
  cases hc:c.callee with
  | value g =>
   have hg:ev s g=ev s' g:=e g (by simp [Call.operands,hc])
   simp only [hg,ha]
  | invoke r m=>rfl
  | builtin b=>simp only [ha]
 case build t ps=>rw [afr ps (λx hx=>e x (by simpa using hx))]
 case buildSlice t n ps=>rw [afr ps (λx hx=>e x (by simpa using hx))]
 case makeFunc fn first captured =>
  rw [vS (l:=first.toList) (f:=ev s) (g:=ev s') λx hx=>e x (by simp [<-Array.mem_toList_iff,hx]),
   vS (l:=captured.toList) (f:=ev s) (g:=ev s') λx hx=>e x (by simp [<-Array.mem_toList_iff,hx])]
 case slice t x lo hi mx=>cases lo<;>cases hi<;>cases mx<;>simp_all
 all_goals first|rfl|(simp_all;done)
def ff:SV->Option Nat
 | .ptr l _=>some l
 | .ig l _ _ _=>some l
 | .own l=>some l
 | .gq l _ _ _=>some l
 | .fc l=>some l
 | .iA l=>some l
 | _=>none
theorem adb (X:Ctx) {b b':List Slot} (t:TypeId) {x:SV} (h:∀l,ff x=some l->b[l]?=b'[l]?):EH X b t x=EH X b' t x:=by
 unfold EH
 cases x<;>simp only [ff] at h<;>first|rfl|(simp only [h _ rfl])
theorem ab8 (X:Ctx) {b b':List Slot} (t:TypeId) {x y:SV} (h:∀l,ff x=some l->b[l]?=b'[l]?):Cf X b t x y=Cf X b' t x y:=by
 unfold Cf
 cases x<;>simp only [ff] at h<;>first|rfl|(simp only [h _ rfl])
theorem aa8 (X:Ctx) {b b':List Slot} (t:TypeId) {x y:SV} (ok:Bool) (h:∀l,ff x=some l->b[l]?=b'[l]?):Ej X b t x y ok=Ej X b' t x y ok:=by
 unfold Ej
 cases x<;>simp only [ff] at h<;>first|rfl|(simp only [h _ rfl])
theorem ab9 {b b':List Slot} {x:SV} (h:∀l,ff x=some l->b[l]?=b'[l]?):Ev b x=Ev b' x:=by
 unfold Ev
 cases x with
 | ptr l off =>
  cases off with
  | zero=>simp only [h l rfl]
  | succ n=>rfl
 | _=>rfl
theorem ND (X:Ctx) {b b':List Slot} (t:TypeId) {x y z:SV} (h:∀l,ff x=some l->b[l]?=b'[l]?):Ai X b t x y z=Ai X b' t x y z:=by
 unfold Ai
 cases x<;>simp only [ff] at h<;>first|rfl|(simp only [h _ rfl])
theorem Z8 (X:Ctx) {b b':List Slot} (t:TypeId) {x y:SV} (h:∀l,ff x=some l->b[l]?=b'[l]?):BP X b t x y=BP X b' t x y:=by
 unfold BP
 cases x<;>simp only [ff] at h<;>first|rfl|(simp only [h _ rfl])
theorem ap0 (X:Ctx) {b b':List Slot} (t:TypeId) {x:SV} (h:∀l,ff x=some l->b[l]?=b'[l]?):EX X b t x=EX X b' t x:=by
 unfold EX
 cases X.tt t with
 | none=>rfl
 | some i =>
  simp only
  cases i.d<;>cases x<;>simp only [ff] at h<;>first|rfl|(simp only [h _ rfl])
theorem afs {b b':List Slot} {x:SV} (h:∀l,ff x=some l->b[l]?=b'[l]?):top b x=top b' x:=by
 cases x<;>simp only [ff] at h<;>first|rfl|(simp only [top,h _ rfl])
theorem am2 (X:Ctx) {b b':List Slot} (l:Nat) (t:TypeId) {x y:SV} (h:∀l,ff x=some l->b[l]?=b'[l]?) (h':∀l,ff y=some l->b[l]?=b'[l]?) :
  Ax X b l t x y=Ax X b' l t x y:=by
 unfold Ax
 rw [afs h']
 by_cases hl:∃l,ff x=some l
 ·obtain ⟨l0,hl⟩:=hl
  have hb:=h l0 hl
  cases x<;>simp only [ff] at hl<;>first|(cases hl;done)|(cases hl;simp only [hb])
 ·cases x<;>first|exact absurd ⟨_,rfl⟩ hl|rfl|((repeat' (first|rfl|split))<;>simp_all;done)
theorem ams (X:Ctx) {b b':List Slot} (l:Nat) (t t':TypeId) {x y:SV} (h:∀l,ff x=some l->b[l]?=b'[l]?):At X b l t t' x y=At X b' l t t' x y:=by
 unfold At
 cases x<;>simp only [ff] at h<;>first|rfl|(simp only [h _ rfl])
theorem aoZ (X:Ctx) {b b':List Slot} (t:TypeId) {x y:SV} (h:∀l,ff x=some l->b[l]?=b'[l]?) (h':∀l,ff y=some l->b[l]?=b'[l]?) :
  Cp X b t x y=Cp X b' t x y:=by
 unfold Cp
 rw [afs h']
 cases X.tt t with
 | none=>rfl
 | some i =>
  simp only
  cases i.d<;>try rfl
  rename_i e
  simp only
  cases X.tt e with
  | none=>cases x<;>rfl
  | some k=>cases x<;>simp only [ff] at h<;>first|rfl|simp only [h _ rfl]
theorem aca (X:Ctx) {b b':List Slot} (l:Nat) (t:TypeId) {x:SV} (lo hi mx:Option SV) (h:∀l,ff x=some l->b[l]?=b'[l]?) :
  Ch X b l t x lo hi mx=Ch X b' l t x lo hi mx:=by
 unfold Ch
 cases X.tt t with
 | none=>rfl
 | some i =>
  simp only
  cases i.d<;>try rfl
  rename_i e
  simp only
  cases X.tt e with
  | none=>rfl
  | some k=>cases mx<;>cases x<;>simp only [ff] at h<;>first|rfl|simp only [h _ rfl]
theorem anR (X:Ctx) {b b':List Slot} (t:TypeId) {x:SV} (h:∀l,ff x=some l->b[l]?=b'[l]?):Cg X b t x=Cg X b' t x:=by
 unfold Cg
 cases X.tt t with
 | none=>rfl
 | some i =>
  simp only
  cases i.d<;>try rfl
  rename_i e
  simp only
  cases X.tt e with
  | none=>rfl
  | some k=>cases x<;>simp only [ff] at h<;>first|rfl|simp only [h _ rfl]
theorem aaH (X:Ctx) {b b':List Slot} (l:Nat) (bi:Builtin) (ts:List TypeId) {xs:List SV} (h:∀x∈xs,∀l,ff x=some l->b[l]?=b'[l]?) :
  B4 X b l bi ts xs=B4 X b' l bi ts xs:=by
 unfold B4
 cases bi<;>try rfl
 ·simp only
  split
  ·rw [am2 X l _ (h _ (by simp)) (h _ (by simp)),ams X l _ _ (h _ (by simp))]
  ·rfl
 ·simp only
  split
  ·rw [anR X _ (h _ (by simp))]
  ·rfl
 ·simp only
  split
  ·rw [aoZ X _ (h _ (by simp)) (h _ (by simp))]
  ·rfl
 ·simp only
  split
  ·rw [ap0 X _ (h _ (by simp))]
  ·rfl
theorem Um (X:Ctx) (t:List SV) (b b':List Slot) (l:Nat) (op:Op) (h:vp op=false):eR X ⟨t,b⟩ l op=eR X ⟨t,b'⟩ l op:=by
 cases op<;>simp [vp] at h<;>rfl
theorem ao0 (X:Ctx) (t:List SV) (b b':List Slot) (l:Nat) (op:Op) (hd:deep op=false) (h:∀x∈op.operands,∀l,ff (ev ⟨t,b⟩ x)=some l->b[l]?=b'[l]?) :
  eR X ⟨t,b⟩ l op=eR X ⟨t,b'⟩ l op:=by
 cases op<;>try rfl
 case load ty x=>exact adb X ty (h x (by simp [Op.operands]))
 case store ty x y=>exact ab8 X ty (h x (by simp [Op.operands]))
 case indexAddr ty x y=>exact Z8 X ty (h x (by simp [Op.operands]))
 case lookup ty x y ok=>exact aa8 X ty ok (h x (by simp [Op.operands]))
 case entry x=>exact ab9 (h x (by simp [Op.operands]))
 case mapUpdate ty x y z=>exact ND X ty (h x (by simp [Op.operands]))
 case insert ty x y z=>exact ND X ty (h x (by simp [Op.operands]))
 case slice ty x lo hi mx =>
  have e:∀x,ev ⟨t,b⟩ x=ev ⟨t,b'⟩ x:=λx=>by cases x<;>rfl
  have e':ev ⟨t,b⟩=ev ⟨t,b'⟩:=funext e
  simp only [eR,<-e']
  exact aca X l ty _ _ _ (h x (by simp [Op.operands]))
 case call c =>
  simp only [eR]
  cases hc:c.callee with
  | value g=>simp [deep,hc] at hd
  | invoke r m=>rfl
  | builtin bi =>
   simp only
   have e:c.args.toList.map (ev ⟨t,b⟩)=c.args.toList.map (ev ⟨t,b'⟩):=vS λx _=>by cases x<;>rfl
   rw [<-e]
   refine aaH X l bi _ λy hy=>?_
   obtain ⟨x,hx,rfl⟩:=lX.1 hy
   exact h x (by simp only [Op.operands];exact NI hx)
def iR (s:St) (t:Tmp):Option Nat:=ff ((s.t[t]?).getD .any)
theorem ao1 (v:Value):ff (Ba v)=none:=by
 have h1:∀v,ff (l6 v)=none:=λv=>by unfold l6;split<;>rfl
 unfold Ba
 split
 ·rfl
 ·exact h1 _
theorem ade (X:Ctx) (t:List SV) (b b':List Slot) (l:Nat) (op:Op) {ys:List Tmp} (hm:iF op=some ys) (h:∀y∈ys,∀l,iR ⟨t,b⟩ y=some l->b[l]?=b'[l]?) :
  eR X ⟨t,b⟩ l op=eR X ⟨t,b'⟩ l op:=by
 cases op<;>try (cases hm;done)
 case load ty x =>
  cases x<;>simp [iF] at hm
  subst hm
  exact adb X ty (h _ (by simp))
 case store ty x z =>
  cases x<;>simp [iF] at hm
  subst hm
  have e:ev ⟨t,b⟩ z=ev ⟨t,b'⟩ z:=by cases z<;>rfl
  simp only [eR,e]
  exact ab8 X ty (h _ (by simp))
 case indexAddr ty x z =>
  cases x<;>simp [iF] at hm
  subst hm
  have e:ev ⟨t,b⟩ z=ev ⟨t,b'⟩ z:=by cases z<;>rfl
  simp only [eR,e]
  exact Z8 X ty (h _ (by simp))
 case entry x =>
  cases x<;>simp [iF] at hm
  subst hm
  exact ab9 (h _ (by simp))
 case lookup ty x z ok =>
  cases x<;>simp [iF] at hm
  subst hm
  have e:ev ⟨t,b⟩ z=ev ⟨t,b'⟩ z:=by cases z<;>rfl
  simp only [eR,e]
  exact aa8 X ty ok (h _ (by simp))
 case mapUpdate ty x z z' =>
  cases x<;>simp [iF] at hm
  subst hm
  have e:ev ⟨t,b⟩ z=ev ⟨t,b'⟩ z:=by cases z<;>rfl
  have e':ev ⟨t,b⟩ z'=ev ⟨t,b'⟩ z':=by cases z'<;>rfl
  simp only [eR,e,e']
  exact ND X ty (h _ (by simp))
 case insert ty x z z' =>
  cases x<;>simp [iF] at hm
  subst hm
  have e:ev ⟨t,b⟩ z=ev ⟨t,b'⟩ z:=by cases z<;>rfl
  have e':ev ⟨t,b⟩ z'=ev ⟨t,b'⟩ z':=by cases z'<;>rfl
  simp only [eR,e,e']
  exact ND X ty (h _ (by simp))
 case slice ty x lo hi mx =>
  cases x<;>cases mx<;>simp [iF] at hm
  subst hm
  have e:∀x,ev ⟨t,b⟩ x=ev ⟨t,b'⟩ x:=λx=>by cases x<;>rfl
  have e':ev ⟨t,b⟩=ev ⟨t,b'⟩:=funext e
  simp only [eR,<-e']
  exact aca X l ty _ _ _ (h _ (by simp))
 case call c =>
  simp only [eR]
  cases hc:c.callee with
  | value g=>simp [iF,hc] at hm
  | invoke r m=>rfl
  | builtin bi =>
   simp only [iF,hc,tO] at hm
   subst hm
   simp only
   have e:c.args.toList.map (ev ⟨t,b⟩)=c.args.toList.map (ev ⟨t,b'⟩):=vS λx _=>by cases x<;>rfl
   rw [<-e]
   refine aaH X l bi _ λy hy=>?_
   obtain ⟨x,hx,rfl⟩:=lX.1 hy
   cases x with
   | tmp z=>exact h z (Ec.2 ⟨.tmp z,hx,rfl⟩)
   | const v =>
    intro l hl
    have:ff (Ba v)=some l:=hl
    rw [ao1] at this;cases this
   | global g=>intro l hl;cases hl
   | func f=>intro l hl;cases hl
theorem Ny (X:Ctx) (s:St) {ty:TypeId} {z:Operand} {y y':SV} {x:SV} {u:List (Nat × Slot)} (h:(Ai X s.b ty (ev s z) y y').out x u) :
  ∃k sl,ff (ev s z)=some k/\u=[(k,sl)]/\∃x0,s.b[k]?=some x0/\x0.live=.live:=by
 unfold Ai at h
 split at h<;>try exact h.elim
 split at h<;>try exact h.elim
 split at h<;>try exact h.elim
 split at h<;>try exact h.elim
 split at h<;>try exact h.elim
 rename_i k e
 split at h<;>try exact h.elim
 rename_i hs
 split at h<;>try exact h.elim
 split at h<;>try exact h.elim
 obtain ⟨_,_,_,rfl⟩:=h
 exact ⟨k,_,by rw [e];rfl,rfl,_,hs,rfl⟩
theorem aa9 (X:Ctx) (s:St) (l:Nat) (op:Op) {x:SV} {u:List (Nat × Slot)} (h:(eR X s l op).out x u) {t:Tmp} (hm:lh op=some t) :
  ∀q∈u,iR s t=some q.1\/(ie op=true/\q.1=l):=by
 cases op<;>try (cases hm;done)
 case store ty z z' =>
  cases z<;>simp [lh] at hm
  rename_i t'
  subst hm
  simp only [eR] at h
  unfold Cf at h
  split at h<;>try exact h.elim
  split at h<;>try exact h.elim
  split at h
  ·rename_i k off e
   repeat' split at h
   all_goals try exact h.elim
   obtain rfl:=h.2
   intro q hq;simp at hq;subst hq
   have e':iR s t'=ff (ev s (.tmp t')):=rfl
   left;rw [e',e];rfl
  ·rename_i k sz j off e
   repeat' split at h
   all_goals try exact h.elim
   obtain ⟨_,_,_,rfl⟩:=h
   intro q hq;simp at hq;subst hq
   have e':iR s t'=ff (ev s (.tmp t')):=rfl
   left;rw [e',e];rfl
  ·exact h.elim
 case mapUpdate ty z z' z'' =>
  cases z<;>simp [lh] at hm
  rename_i t'
  subst hm
  obtain ⟨k,sl,h1,rfl,_⟩:=Ny X s h
  intro q hq;simp at hq;subst hq
  exact .inl h1
 case insert ty z z' z'' =>
  cases z<;>simp [lh] at hm
  rename_i t'
  subst hm
  obtain ⟨k,sl,h1,rfl,_⟩:=Ny X s h
  intro q hq;simp at hq;subst hq
  exact .inl h1
 case call c =>
  obtain ⟨callee,args,argTypes⟩:=c
  simp only [eR] at h
  cases callee with
  | value g=>simp [lh] at hm
  | invoke r m=>simp [lh] at hm
  | builtin bi =>
   simp only at h
   have hd:∀{xs:List Operand} {a b:SV},Cb xs=some t->xs.map (ev s)=[a,b]->iR s t=ff a:=by
    intro xs a b h1 h2
    unfold Cb at h1
    split at h1
    ·simp at h1;subst h1
     simp only [mw,N7] at h2
     rw [<-h2.1];rfl
    ·cases h1
   unfold B4 at h
   split at h<;>simp [lh] at hm
   ·split at h<;>try exact h.elim
    rename_i y z wN
    have hl:=hd hm (by assumption)
    split at h
    ·unfold Ax at h
     repeat' split at h
     all_goals try exact h.elim
     iterate 2
      obtain ⟨_,_,_,rfl⟩:=h
      intro q hq;simp at hq
      rcases hq with rfl|rfl
      ·left;rw [hl];rfl
      ·right;exact ⟨rfl,rfl⟩
     all_goals
      obtain ⟨_,_,_,rfl⟩:=h
      intro q hq;simp at hq;subst hq
      right;exact ⟨rfl,rfl⟩
    ·unfold At at h
     repeat' split at h
     all_goals try exact h.elim
     ·obtain ⟨_,_,_,rfl⟩:=h
      intro q hq;simp at hq;subst hq
      right;exact ⟨rfl,rfl⟩
     obtain ⟨_,_,_,rfl⟩:=h
     intro q hq;simp at hq
     rcases hq with rfl|rfl
     ·left;rw [hl];rfl
     ·right;exact ⟨rfl,rfl⟩
   ·split at h<;>try exact h.elim
    have hl:=hd hm (by assumption)
    split at h<;>try exact h.elim
    unfold Cp at h
    repeat' split at h
    all_goals try exact h.elim
    obtain ⟨_,_,_,rfl⟩:=h
    intro q hq;simp at hq;subst hq
    left;rw [hl];rfl
   ·split at h<;>try exact h.elim
    rename_i ty y hta wN
    have hl:iR s t=ff y:=by
     unfold Cb at hm
     split at hm
     ·rename_i e1
      simp at hm;subst hm
      rw [e1] at wN
      simp only [mw,N7] at wN
      rw [<-wN.1];rfl
     ·cases hm
    unfold Cg at h
    repeat' split at h
    all_goals try exact h.elim
    obtain ⟨_,_,_,rfl⟩:=h
    intro q hq;simp at hq;subst hq
    left;rw [hl];rfl
   ·exact h.elim
theorem acb (X:Ctx) (s:St) (l:Nat) (op:Op) {x:SV} {u:List (Nat × Slot)} (h:(eR X s l op).out x u) {t:Tmp} (hm:xQ op=some t) :
  ∀k,ff x=some k->iR s t=some k:=by
 have key:∀z,z=ev s (.tmp t)->∀k,ff z=some k->iR s t=some k:=by rintro z rfl k hk;exact hk
 cases op<;>try (cases hm;done)
 case move z =>
  cases z<;>simp [xQ] at hm
  subst hm
  obtain ⟨rfl,_⟩:=h
  exact key _ rfl
 case assign z =>
  cases z<;>simp [xQ] at hm
  subst hm
  obtain ⟨rfl,_⟩:=h
  exact key _ rfl
 case nilCheck z =>
  cases z<;>simp [xQ] at hm
  subst hm
  simp only [eR] at h
  split at h<;>first|exact h.elim|skip
  ·rename_i e;obtain ⟨rfl,_⟩:=h;exact key _ e.symm
  ·rename_i e;obtain ⟨rfl,_⟩:=h;exact key _ e.symm
  ·obtain ⟨rfl,_⟩:=h;intro k hk;cases hk
 case fieldAddr ty z j =>
  cases z<;>simp [xQ] at hm
  subst hm
  rename_i t
  simp only [eR] at h
  generalize hz:ev s (.tmp t)=z at h
  unfold Jq at h
  repeat' split at h
  all_goals first|exact h.elim|skip
  all_goals
   obtain ⟨rfl,_⟩:=h
   intro k hk
   exact key _ hz.symm k hk
 case slice ty z lo hi mx =>
  cases z<;>cases mx<;>simp [xQ] at hm
  subst hm
  rename_i t
  have hc:∀a b,clip a b none=false:=λa b=>by unfold clip;split<;>simp_all
  simp only [eR,DX] at h
  generalize hz:ev s (.tmp t)=z at h
  unfold Ch at h
  simp only [hc,Tn,jE,if_false] at h
  repeat' split at h
  all_goals first|exact h.elim|skip
  all_goals
   intro k hk
   first
   | (obtain ⟨_,_,rfl,_⟩:=h;cases hk;done)
   | (obtain ⟨_,rfl,_⟩:=h;first|(cases hk;done)|exact key _ hz.symm k hk)
   | (obtain ⟨rfl,_⟩:=h;cases hk;done)
 case indexAddr ty z ix =>
  cases z<;>simp [xQ] at hm
  subst hm
  rename_i t
  simp only [eR] at h
  generalize hz:ev s (.tmp t)=z at h
  unfold BP at h
  repeat' split at h
  all_goals first|exact h.elim|skip
  all_goals
   intro k hk
   first
   | (obtain ⟨_,_,rfl,_⟩:=h;first|(cases hk;done)|exact key _ hz.symm k hk)
   | (obtain ⟨rfl,_⟩:=h;first|(cases hk;done)|exact key _ hz.symm k hk)
   | (obtain ⟨_,rfl,_⟩:=h;exact key _ hz.symm k hk)
def Ex (ops:List Oper) (lb:List (Oper × Nat)) (s:St) (t:Tmp):List Nat :=
 (match iR s t with|some l=>[l]|none=>[])++(lb.filterMap λp=>match KC p.1 t&&newVar p.1.op&&ie p.1.op with|true=>some p.2|false=>none)
def sZ (ops:List Oper) (lb:List (Oper × Nat)) (s:St) (t:Tmp):List Nat:=match mL ops 8 t with
 | some A=>A.flatMap (Ex ops lb s)
 | none=>[]
structure rJ (ops:List Oper) (K:Tmp->List Nat) (s:St):Prop where
 ji:∀t A,mL ops 8 t=some A->∀l,iR s t=some l->l∈K t
 cl:∀o∈ops,∀t x A,o.dst=some t->newVar o.op=false->xQ o.op=some x->mL ops 8 t=some A->(∃B,mL ops 8 x=some B)/\∀l∈K x,l∈K t
 L7:∀p∈ops,∀j∈ops,∀x ys,Is ops p j x ys->qf p.op=true->∀y∈ys,∀l∈K x,l∉K y
def wh (ops:List Oper) (K:Tmp->List Nat) (o:Oper) (l:Nat):Prop:=∀t A,o.dst=some t->newVar o.op=true->ie o.op=true->mL ops 8 t=some A->l∈K t
theorem Ol {ops:List Oper} {lb:List (Oper × Nat)} {s:St}:∀o∈ops,∀t x A,o.dst=some t->newVar o.op=false->xQ o.op=some x->mL ops 8 t=some A ->
  (∃B,mL ops 8 x=some B)/\∀l∈sZ ops lb s x,l∈sZ ops lb s t:=by
 intro o ho t x A hd hn hx hA
 have hA':uc (mL ops 7) t ops=some A:=hA
 rcases JX hd ho hA' with h|⟨x',B,h1,h2,h3⟩
 ·rw [h] at hn;cases hn
 ·rw [hx] at h1;cases h1
  have h4:=ab6 h2
  refine ⟨⟨B,h4⟩,λl hl=>?_⟩
  unfold sZ at hl ⊢
  rw [h4] at hl
  rw [hA]
  obtain ⟨y,hy,hl⟩:=Ti.1 hl
  exact Ti.2 ⟨y,h3 y hy,hl⟩
theorem Jp {ops:List Oper} {lb:List (Oper × Nat)} {s:St} {t:Tmp} {A:List Tmp} (h:mL ops 8 t=some A) {l:Nat} (hl:l∈Ex ops lb s t):l∈sZ ops lb s t:=by
 unfold sZ
 rw [h]
 exact Ti.2 ⟨t,Oj (show uc (mL ops 7) t ops=some A from h),hl⟩
theorem rJ.ne {ops:List Oper} {K:Tmp->List Nat} {s:St} (h:rJ ops K s) {p j:Oper} (hp:p∈ops) (hj:j∈ops) {x:Tmp} {ys:List Tmp} (F:Is ops p j x ys) (hw:qf p.op=true) {l:Nat} (hx:iR s x=some l)
  {y:Tmp} (hm:y∈ys):iR s y≠some l:=λhy=>by
 obtain ⟨A,hA⟩:=F.ax
 obtain ⟨B,hB,_⟩:=F.d A hA y hm
 exact h.L7 p hp j hj x ys F hw y hm l (h.ji x A hA l hx) (h.ji y B hB l hy)
def Sep (p j:Oper) (s:St):Prop:=qf p.op=true->vp j.op=false\/∃x ys,lh p.op=some x/\iF j.op=some ys/\∀l,iR s x=some l->∀y∈ys,iR s y≠some l
theorem xL.sep {ops:List Oper} {K:Tmp->List Nat} {s:St} {p j:Oper} (h:xL ops p j) (FA:rJ ops K s) (hp:p∈ops) (hj:j∈ops):Sep p j s:=λhw=>by
 rcases h.w1 hw with h1|⟨x,ys,F⟩
 ·exact .inl h1
 ·exact .inr ⟨x,ys,F.p,F.j,λl hl y hy=>FA.ne hp hj F hw hl hy⟩
def UY (b:List Slot) (l:Nat):Prop:=∃z,b[l]?=some z/\z.live=.live
def Shape (b:List Slot) (l:Nat) (op:Op) (u:List (Nat × Slot)):Prop :=
 u=[]\/(ie op=true/\∃y,u=[(l,y)])\/(qf op=true/\∃l0 y,u=[(l0,y)]/\UY b l0) \/
  (qf op=true/\ie op=true/\∃l0 y z,u=[(l0,y),(l,z)]/\UY b l0)
theorem aba (X:Ctx) (s:St) (l:Nat) (op:Op) {x:SV} {u:List (Nat × Slot)} (h:(eR X s l op).out x u):Shape s.b l op u:=by
 have no:∀{A:eU},A.out x u->(∀x' u',A.out x' u'->u'=[])->Shape s.b l op u:=λh1 h2=>.inl (h2 _ _ h1)
 cases op<;>simp only [eR] at h<;>try exact h.elim
 case move y=>exact .inl h.2
 case assign y=>exact .inl h.2
 case pick c y z =>
  unfold Pz at h
  split at h<;>try (first|exact h.elim|exact .inl h.2)
  split at h<;>first|exact h.elim|exact .inl h.2
 case alloc e =>
  split at h<;>first|exact h.elim|exact .inr (.inl ⟨rfl,_,h.2⟩)
 case box e y =>
  split at h<;>first|exact h.elim|exact .inr (.inl ⟨rfl,_,h.2⟩)
 case build t ps =>
  unfold O3 at h
  repeat' split at h
  all_goals first|exact h.elim|exact .inl h.2
 case buildSlice t n ps =>
  unfold Jo at h
  repeat' split at h
  all_goals first|exact h.elim|exact .inl h.2|exact .inr (.inl ⟨rfl,_,h.2⟩)|(obtain ⟨_,_,_,h⟩:=h;exact .inr (.inl ⟨rfl,_,h⟩))
 case load t y =>
  unfold EH at h
  repeat' split at h
  all_goals first|exact h.elim|exact .inl h.2|(obtain ⟨_,_,_,h⟩:=h;exact .inl h)
 case store t y z =>
  unfold Cf at h
  repeat' split at h
  all_goals try exact h.elim
  ·rename_i hs _
   exact .inr (.inr (.inl ⟨rfl,_,_,h.2,_,hs,rfl⟩))
  ·rename_i hs _
   obtain ⟨_,_,_,h⟩:=h
   exact .inr (.inr (.inl ⟨rfl,_,_,h,_,hs,rfl⟩))
 case mapUpdate t y z z' =>
  obtain ⟨k,sl,_,rfl,x0,hs,hl⟩:=Ny X s h
  exact .inr (.inr (.inl ⟨rfl,_,_,rfl,_,hs,hl⟩))
 case insert t y z z' =>
  obtain ⟨k,sl,_,rfl,x0,hs,hl⟩:=Ny X s h
  exact .inr (.inr (.inl ⟨rfl,_,_,rfl,_,hs,hl⟩))
 case entry y =>
  unfold Ev at h
  repeat' split at h
  all_goals first|exact h.elim|exact .inl h.2
 case lookup t y z ok =>
  unfold Ej at h
  repeat' split at h
  all_goals first|exact h.elim|(obtain ⟨_,_,_,h⟩:=h;exact .inl h)
 case makeMap t r =>
  unfold JR at h
  repeat' split at h
  all_goals first|exact h.elim|exact .inr (.inl ⟨rfl,_,h.2⟩)
 case range t y =>
  unfold Kg at h
  repeat' split at h
  all_goals first|exact h.elim|exact .inr (.inl ⟨rfl,_,h.2⟩)
 case nilCheck y =>
  repeat' split at h
  all_goals first|exact h.elim|exact .inl h.2
 case binOp bo t y z t' =>
  unfold Qk at h
  repeat' split at h
  all_goals try exact h.elim
  all_goals try exact .inl h.2
  all_goals try exact .inl h.2.2
  ·unfold Hi at h;split at h<;>first|exact h.elim|exact .inl h.2
  ·unfold Ce at h;split at h<;>first|exact h.elim|exact .inl h.2|exact .inl h.2.2
 case unOp uo t y =>
  unfold Q9 at h
  repeat' split at h
  all_goals first|exact h.elim|exact .inl h.2
 case convert src dst y =>
  unfold PA at h
  repeat' split at h
  all_goals first|exact h.elim|exact .inl h.2
 case makeFunc fn fs cs=>exact .inl h.2
 case makeSlice t n m =>
  unfold Jr at h
  repeat' split at h
  all_goals first|exact h.elim|exact .inr (.inl ⟨rfl,_,h.2.2⟩)
 case slice t y lo hi mx =>
  unfold Ch at h
  split at h<;>try exact h.elim
  split at h<;>try exact h.elim
  ·split at h<;>try exact h.elim
   split at h
   ·rename_i hc
    split at h<;>try exact h.elim
    have hm:mx.isSome=true:=by
     simp only [eh] at hc
     cases mx with
     | none=>simp [clip] at hc
     | some _=>rfl
    exact .inr (.inl ⟨by cases mx<;>simp at hm;rfl,_,h.2⟩)
   ·repeat' split at h
    all_goals first|exact h.elim|exact .inl h.2.2|exact .inl h.2|(obtain ⟨_,_,_,h⟩:=h;exact .inl h)
  ·repeat' split at h
   all_goals first|exact h.elim|exact .inl h.2.2
  ·repeat' split at h
   all_goals first|exact h.elim|(obtain ⟨_,_,_,h⟩:=h;exact .inl h)
 case fieldAddr t y j =>
  unfold Jq at h
  repeat' split at h
  all_goals first|exact h.elim|exact .inl h.2
 case field t y j =>
  unfold O4 at h
  repeat' split at h
  all_goals first|exact h.elim|exact .inl h.2
 case indexAddr t y z =>
  unfold BP at h
  repeat' split at h
  all_goals first|exact h.elim|exact .inl h.2|exact .inl h.2.2|(obtain ⟨_,_,_,h⟩:=h;exact .inl h)
 case index t y z =>
  unfold O2 at h
  repeat' split at h
  all_goals first|exact h.elim|exact .inl h.2|exact .inl h.2.2|(obtain ⟨_,_,_,h⟩:=h;exact .inl h)
 case extract y j =>
  repeat' split at h
  all_goals first|exact h.elim|exact .inl h.2
 case call c =>
  split at h
  ·split at h<;>try exact h.elim
   unfold Hs at h
   repeat' split at h
   all_goals first|exact h.elim|(obtain ⟨_,_,_,h⟩:=h;exact .inl h)
  ·rename_i bi hc
   obtain ⟨callee,args,argTypes⟩:=c
   simp only at hc h
   subst hc
   unfold B4 at h
   split at h<;>try exact h.elim
   ·split at h<;>try exact h.elim
    unfold EX at h
    repeat' split at h
    all_goals first|exact h.elim|exact .inl h.2|(obtain ⟨_,_,_,h⟩:=h;exact .inl h)
   ·split at h<;>try exact h.elim
    split at h
    ·unfold Ax at h
     repeat' split at h
     all_goals try exact h.elim
     iterate 2
      rename_i hs _
      obtain ⟨_,_,_,h⟩:=h
      exact .inr (.inr (.inr ⟨rfl,rfl,_,_,_,h,_,hs,rfl⟩))
     all_goals
      obtain ⟨_,_,_,h⟩:=h
      exact .inr (.inl ⟨rfl,_,h⟩)
    ·unfold At at h
     split at h<;>try exact h.elim
     ·repeat' split at h
      all_goals try exact h.elim
      obtain ⟨_,_,_,h⟩:=h
      exact .inr (.inl ⟨rfl,_,h⟩)
     split at h<;>try exact h.elim
     rename_i hs
     repeat' split at h
     all_goals try exact h.elim
     obtain ⟨_,_,_,h⟩:=h
     exact .inr (.inr (.inr ⟨rfl,rfl,_,_,_,h,_,hs,rfl⟩))
   ·split at h<;>try exact h.elim
    split at h<;>try exact h.elim
    unfold Cp at h
    repeat' split at h
    all_goals try exact h.elim
    rename_i hs _
    obtain ⟨_,_,_,h⟩:=h
    exact .inr (.inr (.inl ⟨rfl,_,_,h,_,hs,rfl⟩))
   ·split at h<;>try exact h.elim
    unfold Cg at h
    repeat' split at h
    all_goals try exact h.elim
    rename_i hs _
    obtain ⟨_,_,_,h⟩:=h
    exact .inr (.inr (.inl ⟨rfl,_,_,h,_,hs,rfl⟩))
   ·split at h<;>try exact h.elim
    all_goals
     (first|unfold Ip at h|unfold HH at h)
     repeat' split at h
     all_goals first|exact h.elim|exact .inl h.2
   ·split at h<;>try exact h.elim
    all_goals
     (first|unfold Ip at h|unfold HH at h)
     repeat' split at h
     all_goals first|exact h.elim|exact .inl h.2
   ·split at h<;>try exact h.elim
    unfold Ql at h
    repeat' split at h
    all_goals first|exact h.elim|exact .inl h.2
  ·exact h.elim
end Go.Vc
