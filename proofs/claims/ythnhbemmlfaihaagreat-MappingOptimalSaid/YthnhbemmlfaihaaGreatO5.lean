import Derived.Test.YthnhbemmlfaihaaGreatO4
set_option linter.unusedVariables false
set_option linter.unusedSimpArgs false
set_option maxRecDepth 10000
set_option maxHeartbeats 64000000
namespace Go.Vc
open Go
section
variable {P:Program} {X:Ctx} {f:Fr} {s:St} {η:Nat->Value} {H:bu} {a:Act} {w:World} {o:Oper} {R:SV->List (Nat × Slot)->Prop}
theorem Ho {q:Nat->Live} {lo:Option Operand} {m:Unit->Int} (D:Den f s η H a w) (h:lower (lo.map (Vc.ev s))=some m) :
  (lo=none/\m ()=0)\/∃x k,lo=some x/\a.eval x=.int k (m ()):=by
 cases lo with
 | none=>simp [lower] at h;subst h;exact .inl ⟨rfl,rfl⟩
 | some x =>
  simp only [BJ,lower] at h
  split at h
  ·rename_i k n hn
   simp at h;subst h
   exact .inr ⟨x,k,rfl,mU hn (D.ev x)⟩
  ·cases h
theorem Hp {q:Nat->Live} {len:Unit->Nat} {hi:Option Operand} {m:Unit->Int} (D:Den f s η H a w) (h:bound len (hi.map (Vc.ev s))=some m) :
  (hi=none/\m ()=len ())\/∃x k,hi=some x/\a.eval x=.int k (m ()):=by
 cases hi with
 | none=>simp [bound] at h;subst h;exact .inl ⟨rfl,rfl⟩
 | some x =>
  simp only [BJ,bound] at h
  split at h
  ·rename_i k n hn
   simp at h;subst h
   exact .inr ⟨x,k,rfl,mU hn (D.ev x)⟩
  ·cases h
theorem DR (b:Bool) (len cap:Nat) (lo hi:Option Value) (m n:Int) (fL:(lo=none/\m=0)\/∃k,lo=some (.int k m)) (j5:(hi=none/\n=len)\/∃k,hi=some (.int k n))
  (h0:0<=m) (h1:m<=n) (h2:n<=cap) (w:World):(Instr.sliceBounds b len cap lo hi none).run P w=.ok (m.toNat,n.toNat,cap) w:=by
 have hn:0<=n/\n<=(cap:Int):=by omega
 have hm:0<=m/\m<=(n.toNat:Int):=by omega
 rcases fL with ⟨rfl,rfl⟩|⟨k,rfl⟩<;>rcases j5 with ⟨rfl,rfl⟩|⟨k',rfl⟩ <;>
  simp [Instr.sliceBounds,Instr.sliceBound,asIntOf,hn,hm]<;>(intro h;omega)
theorem XX (D:Den f s η H a w) {t e:TypeId} {x:Operand} {lo hi:Option Operand} {k:TI} (Kk:my P e k) (cu:P.underlying t=some (.slice e)) (ho:o.op=.slice t x lo hi none)
  {T:Type} {c:T->List SV} {xs:Unit->List T} (hx:rel η (aS s.b) H (.sl k.size c xs) (a.eval x)) {m n:Unit->Int} {ln:Unit->Nat} (kP:ln ()=(xs ()).length) (hm:lower (lo.map (Vc.ev s))=some m) (hn:bound ln (hi.map (Vc.ev s))=some n)
  (h0:0<=m ()) (h1:m ()<=n ()) (h2:n ()<=(xs ()).length) (hR:R (.sl k.size c λ_=>((xs ()).take (n ()).toNat).drop (m ()).toNat) []):fm P f s o a w R:=by
 simp only [rel] at hx
 obtain ⟨⟨ad,cap,h3,h4,h5⟩,cv⟩:=hx
 have fL:=Ho (q:=aS s.b) D hm
 have j5:=Hp (q:=aS s.b) D hn
 rw [kP] at j5
 have hb:=DR (P:=P) true (xs ()).length cap (lo.map a.eval) (hi.map a.eval) (m ()) (n ())
  (by
    rcases fL with ⟨rfl,h⟩|⟨y,k,rfl,h⟩
    ·exact .inl ⟨rfl,h⟩
    ·exact .inr ⟨k,by simp [h]⟩)
  (by
    rcases j5 with ⟨rfl,h⟩|⟨y,k,rfl,h⟩
    ·exact .inl ⟨rfl,h⟩
    ·exact .inr ⟨k,by simp [h]⟩) h0 h1 (by omega)
 have hlen:(((xs ()).take (n ()).toNat).drop (m ()).toNat).length=(n ()).toNat - (m ()).toNat:=by simp;omega
 refine eh D (v:=.slice (if cap=(m ()).toNat then ad else ad.map (·.add ((m ()).toNat*k.size))) ((n ()).toNat - (m ()).toNat) (cap - (m ()).toNat)) (λw=>?_) ?_ hR
 ·simp only [execOp,ho,h3,Sem.run_bind,Instr.sliceAt,run_underlying cu,Result.andThen_ok,Instr.slice,BK,hb,run_sizeOf Kk,Sem.run_pure]
 ·simp only [rel,hlen]
  refine ⟨⟨_,_,rfl,by omega,?_⟩,cv⟩
  by_cases hz:(n ()).toNat - (m ()).toNat=0
  ·left;exact iV (by rw [hlen];exact hz)
  right
  rcases h5 with h5|⟨a0,rfl,fV,h6⟩
  ·rw [h5] at h2;simp at h2;omega
  refine ⟨a0.add ((m ()).toNat*k.size),?_,by rw [pB _ fV],λj y hy=>?_⟩
  ·rw [if_neg (by omega)];rfl
  ·rw [kb,lO] at hy
   split at hy
   ·obtain ⟨vals,g1,g2,g3⟩:=h6 _ y hy
    refine ⟨vals,g1,g2,?_⟩
    rw [pB _ fV]
    rw [show a0.off+(m ()).toNat*k.size+j*k.size=a0.off+((m ()).toNat+j)*k.size by rw [Nat.add_mul];omega]
    exact g3
   ·cases hy
theorem aj8 (C:X.Ok P) (D:Den f s η H a w) {l:Nat} (t:TypeId) (x:Operand) (lo hi mx:Option Operand) (hl:mx.isSome=true->s.b[l]?=some .un) (ho:o.op=.slice t x lo hi mx)
  (h:(Ae X s.b l t (Vc.ev s x) (lo.map (Vc.ev s)) (hi.map (Vc.ev s)) (mx.map (Vc.ev s))).K R):fm P f s o a w R:=by
 have hx:=D.ev x
 unfold Ae at h
 split at h<;>first|exact h.elim|skip
 rename_i i j4
 have I:=C.tt _ _ j4
 have cu:=I.desc
 split at h<;>first|exact h.elim|skip
 ·rename_i e hd
  rw [hd] at cu
  split at h<;>first|exact h.elim|skip
  rename_i k hk
  have Kk:=C.tt _ _ hk
  split at h
  ·rename_i hc
   simp only [cG] at hc
   obtain ⟨yY,Nw⟩:=hc
   split at h<;>first|exact h.elim|skip
   rename_i E hE
   have EE:=C.el _ _ hE
   have gS:Value.isSlice (a.eval x):=by
    cases hq:Vc.ev s x<;>rw [hq] at Nw hx<;>simp [ab1] at Nw<;>simp only [rel] at hx
    ·exact ⟨_,_,_,hx⟩
    ·split at hx
     ·exact hx.elim
     ·exact hx
     ·exact hx.2
    ·obtain ⟨ad,hx,_⟩:=hx;exact ⟨_,_,_,hx⟩
    ·obtain ⟨⟨ad,cap,hx,_⟩,_⟩:=hx;exact ⟨_,_,_,hx⟩
   obtain ⟨ad,n,cp,yZ⟩:=gS
   have hb:∃y z k1 k2,lo=none/\hi=some y/\mx=some z/\a.eval y=.int k1 0/\a.eval z=.int k2 0:=by
    unfold clip at yY
    split at yY
    ·rename_i k1 k2 e1 e2 e3
     cases lo<;>simp at e1
     cases hi<;>simp at e2
     cases mx<;>simp at e3
     rename_i y z
     have hy:=D.ev y
     have hz:=D.ev z
     rw [e2] at hy;rw [e3] at hz
     simp only [rel] at hy hz
     exact ⟨y,z,_,_,rfl,rfl,rfl,hy,hz⟩
    ·cases yY
   obtain ⟨y,z,k1,k2,rfl,rfl,rfl,hy,hz⟩:=hb
   refine xW D (hl rfl) (v:=.slice ad 0 0) (w':=w) ?_ (qh w none) (λb hb=>by cases ad<;>simp [cy] at hb) ⟨_,_,_,rfl⟩ ?_ h
   ·simp [execOp,ho,hy,hz,yZ,Instr.sliceAt,run_underlying cu,Instr.slice,Instr.sliceBounds,Instr.sliceBound,asIntOf,run_sizeOf Kk]
   ·exact ⟨[],.inr ⟨⟨ad,rfl⟩,rfl,rfl⟩,by simp [aP],by simp,EE.lf⟩
  ·split at h<;>first|exact h.elim|skip
   ·rename_i T sz c xs z ex em
    split at h<;>first|exact h.elim|skip
    rename_i fc
    subst fc
    split at h<;>first|exact h.elim|skip
    rename_i kn n kz m Tu hn hz
    obtain ⟨⟨h1,h2⟩,hR⟩:=h
    obtain ⟨mz,rfl,emz⟩:∃mz,mx=some mz/\Vc.ev s mz=z:=by
     cases mx with
     | none=>cases em
     | some mz=>simp at em;exact ⟨mz,rfl,em⟩
    have R7:lo=none:=by cases lo<;>simp at Tu;rfl
    subst R7
    rw [ex] at hx
    simp only [rel] at hx
    obtain ⟨⟨ad,cap,h3,h4,h5⟩,cv⟩:=hx
    obtain ⟨yh,rfl,hyh⟩:∃yh,hi=some yh/\(Vc.ev s yh).kq=some (kn,n):=by
     cases hi with
     | none=>cases hn
     | some yh=>exact ⟨yh,rfl,by simpa using hn⟩
    have xo:=mU hyh (D.ev yh)
    have hmz:a.eval mz=.int kz (m ()):=mU (by rw [<-emz] at hz;exact hz) (D.ev mz)
    have hb:(Instr.sliceBounds true (xs ()).length cap none (some (a.eval yh)) (some (a.eval mz))).run P w=.ok (0,(xs ()).length,(xs ()).length) w:=by
     rw [hmz]
     have q1:0<=m ()/\m ()<=(cap:Int):=by omega
     have q2:(m ()).toNat=(xs ()).length:=by omega
     have q3:(n ()).toNat=(xs ()).length:=by omega
     have q4:0<=n ()/\n ()<=m ():=by omega
     have q5:((xs ()).length:Int)<=(cap:Int):=by omega
     rw [xo,h1,h2]
     simp [Instr.sliceBounds,Instr.sliceBound,asIntOf,q5]
    refine x9 D (v:=.slice (if (xs ()).length=0 then ad else ad.map (·.add (0*k.size))) (xs ()).length (xs ()).length) (w':=w) ?_ (qh w none) ?_ hR
    ·simp only [execOp,ho,h3,Sem.run_bind,Instr.sliceAt,run_underlying cu,Result.andThen_ok,Instr.slice,BK,BJ,hb,run_sizeOf Kk,Sem.run_pure,Hb]
    ·simp only [rel]
     refine ⟨⟨_,rfl,?_⟩,cv⟩
     rcases h5 with h5|⟨a0,rfl,fV,h6⟩
     ·exact .inl h5
     by_cases kE:xs ()=[]
     ·exact .inl kE
     right
     have:(xs ()).length≠0:=λe=>kE (iV e)
     refine ⟨a0,?_,fV,h6⟩
     rw [if_neg this]
     simp [pB _ fV]
     cases a0;simp_all
   ·rename_i T sz c xs ex em
    split at h<;>first|exact h.elim|skip
    rename_i fc
    subst fc
    split at h<;>first|exact h.elim|skip
    rename_i m n hm hn
    obtain ⟨⟨h0,h1,h2⟩,hR⟩:=h
    have tu:mx=none:=by cases mx<;>simp at em;rfl
    subst tu
    rw [ex] at hx
    simp only [rel] at hx
    obtain ⟨⟨ad,cap,h3,h4,h5⟩,cv⟩:=hx
    exact XX D Kk cu ho (by simp only [rel];exact ⟨⟨ad,cap,h3,h4,h5⟩,cv⟩) rfl hm hn h0 h1 h2 hR
   ·rename_i l0 ex em
    split at h<;>first|exact h.elim|skip
    rename_i T e' sz c xs hs
    split at h<;>first|exact h.elim|skip
    rename_i fc
    subst fc
    split at h<;>first|exact h.elim|skip
    rename_i m n hm hn
    obtain ⟨⟨h0,h1,h2⟩,hR⟩:=h
    have tu:mx=none:=by cases mx<;>simp at em;rfl
    subst tu
    rw [ex] at hx
    simp only [rel,cx hs,Slot.live] at hx
    obtain ⟨vals,nr,h4,h5,kr⟩:=D.sl l0 _ hs
    obtain ⟨ad,cap,gS,vL⟩:=nr.slice
    have fL:=Ho (q:=aS s.b) D hm
    have j5:=Hp (q:=aS s.b) D hn
    have hb:=DR (P:=P) true (xs ()).length cap (lo.map a.eval) (hi.map a.eval) (m ()) (n ())
     (by
       rcases fL with ⟨rfl,h⟩|⟨y,k,rfl,h⟩
       ·exact .inl ⟨rfl,h⟩
       ·exact .inr ⟨k,by simp [h]⟩)
     (by
       rcases j5 with ⟨rfl,h⟩|⟨y,k,rfl,h⟩
       ·exact .inl ⟨rfl,h⟩
       ·exact .inr ⟨k,by simp [h]⟩) h0 h1 (by omega)
    have fG:a.eval x=.slice ad (xs ()).length cap:=hx.1.trans gS
    refine eh D (v:=.slice (if cap=(m ()).toNat then ad else ad.map (·.add ((m ()).toNat*k.size))) ((n ()).toNat - (m ()).toNat) (cap - (m ()).toNat)) (λw=>?_) ?_ hR
    ·simp only [execOp,ho,fG,Sem.run_bind,Instr.sliceAt,run_underlying cu,Result.andThen_ok,Instr.slice,BK,hb,run_sizeOf Kk,Sem.run_pure]
    ·simp only [rel,cx hs,Slot.live]
     refine ⟨ad,_,cap,gS,by omega,by omega,_,_,rfl,by omega,λaO=>?_,λh=>⟨by rw [h];split<;>cases ad<;>simp [Addr.add],by omega⟩⟩
     have h3:=nr.pos (show 0 < (xs ()).length by omega)
     rcases h3.2 with ⟨nv,_⟩|⟨g,qy,cur,hg,_,_,_⟩
     ·rw [gS] at nv;simp at nv;omega
     ·rw [gS] at hg;simp at hg
      refine ⟨g,hg.1,?_⟩
      rw [if_neg (by omega),hg.1]
      simp [qW]
   ·rename_i l0 sz g h' ex em
    split at h<;>first|exact h.elim|skip
    rename_i T e' jZ c xs hs
    split at h<;>first|exact h.elim|skip
    rename_i fc
    subst fc
    split at h<;>first|exact h.elim|skip
    rename_i m n hm hn
    obtain ⟨⟨h0,h1,h2⟩,hR⟩:=h
    have tu:mx=none:=by cases mx<;>simp at em;rfl
    subst tu
    rw [ex] at hx
    simp only [rel,cx hs,Slot.live] at hx
    obtain ⟨ad,nn,c0,p1,p2,p3,lG,cap,fG,p5,p6,p7⟩:=hx
    have fL:=Ho (q:=aS s.b) D hm
    have j5:=Hp (q:=aS s.b) D hn
    have hb:=DR (P:=P) true (h' () - g ()) cap (lo.map a.eval) (hi.map a.eval) (m ()) (n ())
     (by
       rcases fL with ⟨rfl,h⟩|⟨y,k,rfl,h⟩
       ·exact .inl ⟨rfl,h⟩
       ·exact .inr ⟨k,by simp [h]⟩)
     (by
       rcases j5 with ⟨rfl,h⟩|⟨y,k,rfl,h⟩
       ·exact .inl ⟨rfl,h⟩
       ·exact .inr ⟨k,by simp [h]⟩) h0 h1 (by omega)
    refine eh D (v:=.slice (if cap=(m ()).toNat then lG else lG.map (·.add ((m ()).toNat*k.size))) ((n ()).toNat - (m ()).toNat) (cap - (m ()).toNat)) (λw=>?_) ?_ hR
    ·simp only [execOp,ho,fG,Sem.run_bind,Instr.sliceAt,run_underlying cu,Result.andThen_ok,Instr.slice,BK,hb,run_sizeOf Kk,Sem.run_pure]
    ·simp only [rel,cx hs,Slot.live]
     refine ⟨ad,nn,c0,p1,by omega,by omega,_,_,by rw [show g ()+(n ()).toNat - (g ()+(m ()).toNat)=(n ()).toNat - (m ()).toNat by omega],by omega,λaO=>?_,λh=>⟨by rw [show (m ()).toNat=0 by omega,<-(p7 (by omega)).1];split<;>cases lG<;>simp [Addr.add],by rw [<-(p7 (by omega)).2];omega⟩⟩
     obtain ⟨bl,q1,q2⟩:=p6 (by omega)
     refine ⟨bl,q1,?_⟩
     rw [if_neg (by omega),q2]
     simp [qW,Nat.add_mul]
   ·rename_i ex em
    split at h<;>first|exact h.elim|skip
    rename_i k' Tu Tv
    have tu:mx=none:=by cases mx<;>simp at em;rfl
    have R7:lo=none:=by cases lo<;>simp at Tu;rfl
    subst tu;subst R7
    rw [ex] at hx
    simp only [rel] at hx
    cases hi with
    | none=>simp at Tv
    | some y =>
     have hy:=D.ev y
     simp only [BJ,rR] at Tv
     rw [Tv] at hy
     simp only [rel] at hy
     have hb:=DR (P:=P) true 0 0 none (some (a.eval y)) 0 0 (.inl ⟨rfl,rfl⟩) (.inr ⟨k',by rw [hy]⟩) (by omega) (by omega) (by omega)
     refine eh D (v:=.slice none 0 0) (λw=>?_) (by simp only [rel]) h
     simp only [execOp,ho,hx,Sem.run_bind,Instr.sliceAt,run_underlying cu,Result.andThen_ok,Instr.slice,BK,BJ,hb,run_sizeOf Kk,Sem.run_pure]
     rfl
   ·rename_i cs n ex em
    split at h<;>first|exact h.elim|skip
    rename_i E hE
    have EE:=C.el _ _ hE
    split at h<;>first|exact h.elim|skip
    rename_i m n' hm hn
    obtain ⟨l,⟨gQ,mD,h0,h1,h2⟩,hR⟩:=h
    have tu:mx=none:=by cases mx<;>simp at em;rfl
    subst tu
    rw [ex] at hx
    have nt:=uq (Le.ew (c:=E.c) (ys:=λ_=>l) gQ (λy _=>EE.len k hk y) (λx=>(EE.lf x).1) mD) hx
    exact XX D Kk cu ho nt gQ.symm hm hn h0 h1 (by omega) hR
 ·rename_i hd
  rw [hd] at cu
  split at h<;>first|exact h.elim|skip
  rename_i y ex em
  split at h<;>first|exact h.elim|skip
  rename_i m n hm hn
  obtain ⟨⟨h0,h1,h2⟩,hR⟩:=h
  have tu:mx=none:=by cases mx<;>simp at em;rfl
  subst tu
  rw [ex] at hx
  simp only [rel] at hx
  have fL:=Ho (q:=aS s.b) D hm
  have j5:=Hp (q:=aS s.b) D hn
  have hb:=DR (P:=P) false (y ()).size (y ()).size (lo.map a.eval) (hi.map a.eval) (m ()) (n ())
    (by
      rcases fL with ⟨rfl,h⟩|⟨y,k,rfl,h⟩
      ·exact .inl ⟨rfl,h⟩
      ·exact .inr ⟨k,by simp [h]⟩)
    (by
      rcases j5 with ⟨rfl,h⟩|⟨y,k,rfl,h⟩
      ·exact .inl ⟨rfl,h⟩
      ·exact .inr ⟨k,by simp [h]⟩) h0 h1 (by omega)
  refine eh D (v:=.string ((y ()).extract (m ()).toNat (n ()).toNat)) (λw=>?_) (by simp only [rel]) hR
  simp [execOp,ho,hx,Instr.sliceAt,run_underlying cu,Instr.slice,hb]
 ·rename_i n e hd
  rw [hd] at cu
  split at h<;>first|exact h.elim|skip
  rename_i k E hk hE
  have Kk:=C.tt _ _ hk
  have EE:=C.el _ _ hE
  split at h<;>first|exact h.elim|skip
  rename_i cs off ex em
  split at h<;>first|exact h.elim|skip
  rename_i m hh hm hn
  obtain ⟨l,⟨gQ,mD,h0,h1,h2⟩,hR⟩:=h
  have tu:mx=none:=by cases mx<;>simp at em;rfl
  subst tu
  rw [ex] at hx
  simp only [rel] at hx
  obtain ⟨a0,hv,vals,jv,vC⟩:=hx
  have fL:=Ho (q:=aS s.b) D hm
  have j5:=Hp (q:=aS s.b) D hn
  have hb:=DR (P:=P) false n n (lo.map a.eval) (hi.map a.eval) (m ()) (hh ())
    (by
      rcases fL with ⟨rfl,h⟩|⟨y,k,rfl,h⟩
      ·exact .inl ⟨rfl,h⟩
      ·exact .inr ⟨k,by simp [h]⟩)
    (by
      rcases j5 with ⟨rfl,h⟩|⟨y,k,rfl,h⟩
      ·exact .inl ⟨rfl,h⟩
      ·exact .inr ⟨k,by simp [h]⟩) h0 h1 (by omega)
  have hlen:((l.take (hh ()).toNat).drop (m ()).toNat).length=(hh ()).toNat - (m ()).toNat:=by simp;omega
  have wb:=jH mD (El (Ek jv off) (n*k.size))
  refine eh D (v:=.slice (some (if n=(m ()).toNat then ⟨a0.block,a0.off+off,none⟩ else (⟨a0.block,a0.off+off,none⟩:Addr).add ((m ()).toNat*k.size))) ((hh ()).toNat - (m ()).toNat) (n - (m ()).toNat)) (λw=>?_) ?_ hR
  ·simp only [execOp,ho,hv,Sem.run_bind,Instr.sliceAt,run_underlying cu,Result.andThen_ok,Instr.sureAddr,BK,hb,run_sizeOf Kk,Sem.run_pure]
  ·simp only [rel,hlen]
   refine ⟨⟨_,_,rfl,by omega,?_⟩,λx=>(EE.lf x).1⟩
   by_cases hz:(hh ()).toNat - (m ()).toNat=0
   ·left;exact iV (by rw [hlen];exact hz)
   right
   refine ⟨_,rfl,?_,λj y hy=>?_⟩
   ·rw [if_neg (by omega),pB _ rfl]
   ·rw [kb,lO] at hy
    split at hy
    ·have g:=zw (λx _=>EE.len k hk x) wb _ y hy
     refine ⟨_,?_,g,?_⟩
     ·rw [jj g];exact EE.len k hk y
     ·rw [if_neg (by omega),pB _ rfl]
      intro i u hu
      rw [lO] at hu
      split at hu
      ·rw [kb,lO] at hu
       split at hu
       ·rw [kb] at hu
        have:=vC _ u hu
        rw [show a0.off+off+(m ()).toNat*k.size+j*k.size+i=a0.off+(off+(((m ()).toNat+j)*k.size+i)) by rw [Nat.add_mul];omega]
        exact this
       ·cases hu
      ·cases hu
    ·cases hy
theorem R8 {α:Type} {β:Type 1} {f:α->β} {l:List α} {x:β} (h:l.map f=[x]):∃a,l=[a]/\f a=x:=by
 match l,h with
 | [a],h=>simp at h;exact ⟨a,rfl,h⟩
theorem Ik {α:Type} {β:Type 1} {f:α->β} {l:List α} {x y:β} (h:l.map f=[x,y]):∃a b,l=[a,b]/\f a=x/\f b=y:=by
 match l,h with
 | [a,b],h=>simp at h;exact ⟨a,b,rfl,h.1,h.2⟩
theorem ab9 {α:Type} {β:Type 1} {f:α->β} {l:List α} {x y z:β} (h:l.map f=[x,y,z]):∃a b c,l=[a,b,c]/\f a=x/\f b=y/\f c=z:=by
 match l,h with
 | [a,b,c],h=>simp at h;exact ⟨a,b,c,rfl,h.1,h.2.1,h.2.2⟩
def iT (w:World):bu:=λb=>w.heap[b]?
theorem zx (w:World):(iT w).iZ w:=λb o h=>h
theorem agQ {b o:Nat} {u:Value} (h:w.cell? ⟨b,o,none⟩=some u):pO (iT w) b o=some u:=by
 unfold World.cell? at h
 unfold pO iT
 split at h
 ·rename_i c e fz he
  simp at he
  simp [he] at h ⊢
  exact h
 ·cases h
structure vM (D:Den f s η H a w) (G:bu):Prop where
 le:H.le G
 own:∀l b,aS s.b l=.live->cy (η l)=some b->G b=w.heap[b]?
theorem vM.world (D:Den f s η H a w):vM D (iT w):=⟨D.hw,λ_ _ _ _=>rfl⟩
theorem XY (D:Den f s η H a w) {G:bu} {l:Nat} {T:Type} {e:TypeId} {sz:Nat} {c:T->List SV} {xs:Unit->List T} (hs:s.b[l]?=some (.dyn e sz c xs)) (hle:H.le G) (pc:∀b,cy (η l)=some b->G b=w.heap[b]?) :
  rel η (aS s.b) G (.sl sz c xs) (η l):=by
 obtain ⟨vals,nr,h4,h5,kr⟩:=D.sl l _ hs
 have cV:aS s.b l=.live:=by rw [cx hs];rfl
 simp only [rel]
 refine ⟨?_,λx=>(kr x).1⟩
 obtain ⟨ad,cp,gS,yU⟩:=nr.slice
 refine ⟨ad,cp,gS,yU,?_⟩
 by_cases hn:xs ()=[]
 ·exact .inl hn
 right
 have r9:0 < (xs ()).length:=by cases hq:xs () with|nil=>exact absurd hq hn|cons=>simp
 have h3:=nr.pos r9
 rcases h3.2 with ⟨hz,C8⟩|⟨g,qy,cur,hg,_,ib,uu,l5,gk,q9⟩
 ·omega
 rw [hg] at gS
 simp at gS
 refine ⟨⟨g,0,none⟩,gS.1.symm,rfl,λj x hx=>?_⟩
 have h6:=zw h5 h4 j x hx
 refine ⟨_,?_,dL.up hle h6,λk u hu=>?_⟩
 ·rw [jj h6];exact h5 x (cf hx)
 ·rw [lO] at hu
  split at hu
  ·rw [kb] at hu
   have hG:=pc g (by rw [hg];simp only [cy];rw [if_neg (by omega)])
   have hc:=h3.cells (g:=g) (by rw [hg];rfl) _ u hu
   rw [qW,cell_of_row w g _ cur e (0,0) ib] at hc
   simp only [pO,hG,ib,oZ]
   simpa using hc
  ·cases hu
theorem XZ {D:Den f s η H a w} {G:bu} (S:vM D G) {l:Nat} {T:Type} {e:TypeId} {sz:Nat} {c:T->List SV} {xs:Unit->List T} (hs:s.b[l]?=some (.dyn e sz c xs)) :
 rel η (aS s.b) G (.sl sz c xs) (η l):=XY D hs S.le (λb hb=>S.own l b (by rw [cx hs];rfl) hb)
theorem aj9 {q:Nat->Live} {G:bu} {T:Type} {sz:Nat} {c:T->List SV} {xs:Unit->List T} {o v:Value} {m n:Nat} (h:rel η q G (.sl sz c xs) o) (hp:EH o sz m n v) :
  rel η q G (.sl sz c λ_=>((xs ()).take n).drop m) v:=by
 simp only [rel] at h ⊢
 obtain ⟨⟨ad,cap,rfl,h2,h3⟩,cv⟩:=h
 refine ⟨?_,cv⟩
 obtain ⟨Tq,nn,c0,h4,h5,h6,lG,c',rfl,h8,h9,_⟩:=hp
 simp at h4
 obtain ⟨rfl,rfl,rfl⟩:=h4
 have hlen:(((xs ()).take n).drop m).length=n - m:=by simp;omega
 refine ⟨lG,c',by rw [hlen],by rw [hlen];exact h8,?_⟩
 by_cases xm:m < n
 ·right
  obtain ⟨bl,rfl,rfl⟩:=h9 xm
  rcases h3 with h3|⟨a0,AS,fV,kK⟩
  ·rw [h3] at h6;simp at h6;omega
  ·simp at AS;subst AS
   refine ⟨_,rfl,rfl,λj x hx=>?_⟩
   rw [kb,lO] at hx
   split at hx
   ·obtain ⟨vals,g1,g2,g3⟩:=kK _ x hx
    refine ⟨vals,g1,g2,λk u hu=>?_⟩
    rw [<-g3 k u hu]
    congr 1
    rw [Nat.add_mul];simp only;omega
   ·cases hx
 ·left
  exact iV (by rw [hlen];omega)
theorem aiN {D:Den f s η H a w} {G:bu} (S:vM D G) {l:Nat} {e:TypeId} {cs:List SV} (hs:s.b[l]?=some (.fix e cs)) :
  ∃bl vs,η l=.pointer (some ⟨bl,0,none⟩)/\BX G bl 0 vs/\aP η (aS s.b) H cs vs:=by
 obtain ⟨bl,vs,h3,h4,h5⟩:=D.sl l _ hs
 have hG:=S.own l bl (by rw [cx hs];rfl) (by rw [h3];rfl)
 refine ⟨bl,vs.toList,h3,λj u hu=>?_,h5⟩
 simp only [pO,hG,h4]
 simpa using hu
theorem B3 {D:Den f s η H a w} {G:bu} (S:vM D G):∀(n:Nat) (x:SV) (v:Value),rel η (aS s.b) H x v->rel η (aS s.b) G (iW s.b n x) v
 | 0,x,v,h=>uc (iI.refl _ _) S.le x v h
 | n+1,x,v,h=>by
  have up:∀{y:SV} {v:Value},rel η (aS s.b) H y v->rel η (aS s.b) G y v:=λ{y v} h=>uc (iI.refl _ _) S.le y v h
  have map:∀(cs:List SV) (vs:List Value),aP η (aS s.b) H cs vs->aP η (aS s.b) G (cs.map (iW s.b n)) vs:=by
   intro cs
   induction cs with
   | nil=>intro vs h;simpa [aP] using h
   | cons c r ih =>
    intro vs h
    simp only [aP,iG] at h ⊢
    obtain ⟨u,us,h1,h2,h3⟩:=h
    exact ⟨u,us,h1,B3 S n c u h2,ih us h3⟩
  cases x with
  | own l =>
   simp only [iW]
   split
   ·rename_i T e sz c xs hs
    simp only [rel,cx hs,Slot.live] at h
    rw [h.1]
    exact XZ S hs
   ·exact up h
  | eU l sz m k =>
   simp only [iW]
   split
   ·rename_i T e jZ c xs hs
    split
    ·rename_i fc
     obtain rfl:=nM fc
     simp only [rel,cx hs,Slot.live] at h
     exact aj9 (XZ S hs) h
    ·exact up h
   ·exact up h
  | ptr l off =>
   simp only [iW]
   split
   ·rename_i e cs hs
    simp only [rel,cx hs,Slot.live] at h
    obtain ⟨bl,h1,h2⟩:=h
    obtain ⟨kN,vs,h3,h4,h5⟩:=aiN S hs
    rw [h1] at h3
    simp at h3;subst h3
    simp only [rel]
    exact ⟨⟨bl,0,none⟩,by rw [h2];simp,vs,map _ _ h5,h4⟩
   ·exact up h
  | gn l =>
   simp only [iW]
   split
   ·rename_i T k c m hs
    simp only [rel,cx hs,Slot.live] at h
    obtain ⟨r,es,clock,h3,h4,hM,cv⟩:=D.sl l _ hs
    have hG:=S.own l r (by rw [cx hs];rfl) (by rw [h3];rfl)
    simp only [rel]
    exact ⟨.inr ⟨r,es,clock,h.1.trans h3,by rw [hG];exact h4,hM.mono λt u hu=>dL.up S.le hu⟩,cv⟩
   ·exact up h
  | fn f xs ys =>
   simp only [iW]
   simp only [rel] at h ⊢
   obtain ⟨fs,cs,h1,h2,h3⟩:=h
   exact ⟨fs,cs,h1,map _ _ h2,map _ _ h3⟩
  | agg cs =>
   simp only [iW]
   simp only [rel] at h ⊢
   obtain ⟨vs,h1,h2⟩:=h
   exact ⟨vs,h1,map _ _ h2⟩
  | cM cs =>
   simp only [iW]
   simp only [rel] at h ⊢
   obtain ⟨vs,h1,h2⟩:=h
   exact ⟨vs,h1,map _ _ h2⟩
  | _=>simp only [iW];exact up h
mutual
theorem O0 {η η':Nat->Value} {q q':Nat->Live} {H H':bu}:∀(x:SV) (v:Value),x.scalar=true->rel η q H x v->rel η' q' H' x v
 | .bc c,v,_,h=>by simpa [rel] using h
 | .b x,v,_,h=>by simpa [rel] using h
 | .nb d p,v,l,_=>by simp [SV.scalar] at l
 | .ic k n,v,_,h=>by simpa [rel] using h
 | .i k n,v,_,h=>by simpa [rel] using h
 | .str x,v,_,h=>by simpa [rel] using h
 | .agg cs,v,l,h=>by
  simp only [rel,SV.scalar] at h l ⊢
  obtain ⟨vs,h1,h2⟩:=h
  exact ⟨vs,h1,Kt cs vs l h2⟩
 | .cM cs,v,l,h=>by
  simp only [rel,SV.scalar] at h l ⊢
  obtain ⟨vs,h1,h2⟩:=h
  exact ⟨vs,h1,Kt cs vs l h2⟩
 | .any,_,l,_=>by simp [SV.scalar] at l
 | .cell,_,l,_=>by simp [SV.scalar] at l
 | .v x,v,l,_=>by simp [SV.scalar] at l
 | .cQ,v,l,_=>by simp [SV.scalar] at l
 | .ptr _ off,v,l,h=>by simp [SV.scalar] at l
 | .gh _ sz i off,v,l,h=>by simp [SV.scalar] at l
 | .own _,v,l,h=>by simp [SV.scalar] at l
 | .eU _ _ _ _,v,l,h=>by simp [SV.scalar] at l
 | .ew cs n,v,l,h=>by simp [SV.scalar] at l
 | .sl sz c xs,v,l,h=>by simp [SV.scalar] at l
 | .dV cs off,v,l,h=>by simp [SV.scalar] at l
 | .fn f first cap,v,l,h=>by simp [SV.scalar] at l
 | .mC t x,v,l,h=>by simp [SV.scalar] at l
 | .gq sz c xs,v,l,h=>by simp [SV.scalar] at l
 | .mp k c m,v,l,h=>by simp [SV.scalar] at l
 | .opt p x,v,l,h=>by simp [SV.scalar] at l
 | .gn _,v,l,h=>by simp [SV.scalar] at l
 | .gy _,v,l,h=>by simp [SV.scalar] at l
theorem Kt {η η':Nat->Value} {q q':Nat->Live} {H H':bu}:∀(x:List SV) (v:List Value),zW x=true->aP η q H x v->aP η' q' H' x v
 | [],v,_,h=>by simpa [aP] using h
 | s :: r,v,l,h=>by
  simp only [aP,zW,cG] at h l ⊢
  obtain ⟨x,xs,h1,h2,h3⟩:=h
  exact ⟨x,xs,h1,O0 s x l.1 h2,Kt r xs l.2 h3⟩
end
theorem VJ {fid:FuncId} {fn:Func} (F:lD P fid fn) (args:Array Value) (w:World):(callFunc fid args).run P w=.ok (.enter fid args) w:=by
 have h:=F.body
 cases hb:fn.body with
 | none=>rw [hb] at h;cases h
 | some c =>
  have hn : ¬ fn.name = "runtime.NumGoroutine" := by simpa using F.name
  simp [callFunc,F.get,hn,hb]
theorem W1 {c:Call} {g:Operand} {fid:FuncId} {fn:Func} (F:lD P fid fn) (ho:o.op=.call c) (hg:c.callee=.value g) {fs cs:List Value} (hv:a.eval g=.func (.func fid) fs.toArray cs.toArray) (w:World) :
  (execOp a.eval o).run P w=.ok (.enter fid (fs++c.args.toList.map a.eval++cs).toArray) w:=by
 unfold execOp
 simp only [ho,resolve,hg,hv,Deferred.ofValue,Sem.run_bind,Sem.run_pure,Result.andThen_ok,invoke]
 have:(fs.toArray++Array.map a.eval c.args++cs.toArray)=(fs++c.args.toList.map a.eval++cs).toArray:=by
  apply mq
  simp
 rw [this]
 exact VJ F _ w
theorem Kj {w w':World} (h:(iT w).iZ w') (h1:w'.os=w.os) (h2:w'.tape=w.tape) (h3:w'.output=w.output):w.grownBy w' none:=by
 refine ⟨h1,h2,h3,?_,λb hb _=>?_⟩
 ·by_cases hs:w.heap.size=0
  ·omega
  ·have:=h (w.heap.size - 1) w.heap[w.heap.size - 1] (by simp [iT])
   have:=(fQ.1 this).1
   omega
 ·have:=h b w.heap[b] (by simp [iT,hb])
  rw [this]
  simp [hb]
theorem YZ (b:List Slot):∀(n:Nat) (x:SV),x.lb=false->iW b n x=x
 | 0,x,_=>rfl
 | n+1,x,h=>by
  have map:∀(cs:List SV),rq cs=false->cs.map (iW b n)=cs:=by
   intro cs
   induction cs with
   | nil=>intro _;rfl
   | cons c r ih =>
    intro h
    simp only [rq,s5] at h
    rw [iG,YZ b n c h.1,ih h.2]
  cases x<;>simp only [SV.lb] at h<;>first|(cases h;done)|rfl|(simp only [iW];rw [map _ h];done)|(simp only [s5] at h;simp only [iW];rw [map _ h.1,map _ h.2])
theorem P8 (b:List Slot):∀(xs:List SV),rq xs=false->xs.map (view b)=xs
 | [],_=>rfl
 | x :: r,h=>by
  simp only [rq,s5] at h
  rw [iG,P8 b r h.2]
  exact congrArg (· :: r) (YZ b 4 x h.1)
mutual
theorem ahQ {q:Nat->Live}:∀(x:SV) (v:Value),rel η q H x v->rel η q H (kh x) v
 | .ptr ..,v,h=>by simp only [kh];show v.oneCell'=true;exact yj rfl h
 | .gh ..,v,h=>by simp only [kh];show v.oneCell'=true;exact yj rfl h
 | .own _,v,h=>by simp only [kh];show v.oneCell'=true;exact yj rfl h
 | .eU ..,v,h=>by simp only [kh];show v.oneCell'=true;exact yj rfl h
 | .gn _,v,h=>by simp only [kh];show v.oneCell'=true;exact yj rfl h
 | .gy _,v,h=>by simp only [kh];show v.oneCell'=true;exact yj rfl h
 | .agg cs,v,h=>by
  simp only [kh,rel] at h ⊢
  obtain ⟨vs,h1,h2⟩:=h
  exact ⟨vs,h1,BE cs vs h2⟩
 | .cM cs,v,h=>by
  simp only [kh,rel] at h ⊢
  obtain ⟨vs,h1,h2⟩:=h
  exact ⟨vs,h1,BE cs vs h2⟩
 | .fn f xs ys,v,h=>by
  simp only [kh,rel] at h ⊢
  obtain ⟨fs,cs,h1,h2,h3⟩:=h
  exact ⟨fs,cs,h1,BE xs fs h2,BE ys cs h3⟩
 | .any,v,h=>by simp only [kh];exact h
 | .cell,v,h=>by simp only [kh];exact h
 | .bc _,v,h=>by simp only [kh];exact h
 | .b _,v,h=>by simp only [kh];exact h
 | .nb _ _,v,h=>by simp only [kh];exact h
 | .ic _ _,v,h=>by simp only [kh];exact h
 | .i _ _,v,h=>by simp only [kh];exact h
 | .str _,v,h=>by simp only [kh];exact h
 | .v _,v,h=>by simp only [kh];exact h
 | .cQ,v,h=>by simp only [kh];exact h
 | .ew _ _,v,h=>by simp only [kh];exact h
 | .sl _ _ _,v,h=>by simp only [kh];exact h
 | .gq _ _ _,v,h=>by simp only [kh];exact h
 | .dV _ _,v,h=>by simp only [kh];exact h
 | .mC _ _,v,h=>by simp only [kh];exact h
 | .mp _ _ _,v,h=>by simp only [kh];exact h
 | .opt _ _,v,h=>by simp only [kh];exact h
theorem BE {q:Nat->Live}:∀(x:List SV) (v:List Value),aP η q H x v->aP η q H (wR x) v
 | [],v,h=>h
 | x :: r,v,h=>by
  simp only [wR,aP] at h ⊢
  obtain ⟨u,us,h1,h2,h3⟩:=h
  exact ⟨u,us,h1,ahQ x u h2,BE r us h3⟩
end
theorem ali (C:X.Ok P) (D:Den f s η H a w) {c:Call} {g:Operand} {fid:FuncId} {first cap:List SV} (ho:o.op=.call c) (hg:c.callee=.value g) (hv:Vc.ev s g=.fn (.func fid) first cap)
  (h:(EU X s.b fid (first++c.args.toList.map (Vc.ev s)++cap)).K R):fm P f s o a w R:=by
 have pk:=D.ev g
 rw [hv] at pk
 simp only [rel] at pk
 obtain ⟨fs,cs,h1,h2,h3⟩:=pk
 have mY:aP η (aS s.b) H (first++c.args.toList.map (Vc.ev s)++cap) (fs++c.args.toList.map a.eval++cs):=iS (iS h2 (D.C5 _)) h3
 unfold EU at h
 split at h<;>first|exact h.elim|skip
 rename_i S hS
 have SS:=C.sp _ _ hS
 obtain ⟨fn,F⟩:=SS.fn
 have iw:=W1 F ho hg h1 w
 have fin:∀(α:S.α),S.pre α->R (S.res α) []->∀(Hc:bu),Hc.iZ w->dL Hc (S.args α) (fs++c.args.toList.map a.eval++cs) ->
   (∀H' w' v,Hc.le H'->H'.iZ w'->w.grownBy w' none->(∀b,H' b≠none->Hc b≠none\/w.heap.size<=b)->pU H' (S.res α) v->∃η' H2,Den f (s.jA o.dst (S.res α) []) η' H2 (a.put o.dst v) w')->fm P f s o a w R:=by
  intro α ej hR Hc dw jv iJ
  refine ⟨_,[],hR,λK Q hk=>?_⟩
  unfold Oper.wp
  rw [iw]
  refine (SS.run α ej Hc (iT w) w _ dw (zx w) jv).mono λe w' ⟨v,H',he,g1,g2,g3,g4,g5,g6,g7,g8⟩=>?_
  subst he
  have gJ:=Kj g3 g6 g7 g8
  obtain ⟨η',H2,D'⟩:=iJ H' w' v g1 g2 gJ (λb hb=>by
   rcases g4 b hb with h|h
   ·exact .inl h
   ·right
    unfold iT at h
    simpa using h) g5
  exact hk η' H2 w' v D'
 split at h
 ·obtain ⟨α,⟨⟨hle,tv⟩|hle,ej⟩,hR⟩:=h
  case inr =>
   refine fin α ej hR H D.hw (kB _ _ (SS.lf α) (jH hle (BE _ _ mY))) ?_
   intro H' w' v uB dw gJ bV iy
   exact ⟨η,H',(D.share gJ uB dw bV).put o.dst (pU.up (bu.le.refl H') iy)⟩
  cases hl:rq (first++c.args.toList.map (Vc.ev s)++cap) with
  | false =>
   rw [P8 s.b _ hl] at hle
   refine fin α ej hR H D.hw (kB _ _ (SS.lf α) (jH hle mY)) ?_
   intro H' w' v uB dw gJ bV iy
   exact ⟨η,H',(D.share gJ uB dw bV).put o.dst (pU.up (bu.le.refl H') iy)⟩
  | true =>
  have tv:(S.res α).scalar=true\/S.fr=true:=by
   have h2:((S.res α).scalar||(S.fr||!rq (first++c.args.toList.map (Vc.ev s)++cap)))=true:=tv
   rw [hl] at h2
   simpa using h2
  have Mf:aP η (aS s.b) (iT w) ((first++c.args.toList.map (Vc.ev s)++cap).map (view s.b)) (fs++c.args.toList.map a.eval++cs):=by
   have:∀(xs:List SV) (vs:List Value),aP η (aS s.b) H xs vs->aP η (aS s.b) (iT w) (xs.map (view s.b)) vs:=by
    intro xs
    induction xs with
    | nil=>intro vs h;simpa [aP] using h
    | cons c r ih =>
     intro vs h
     simp only [aP,iG] at h ⊢
     obtain ⟨u,us,h1,h2,h3⟩:=h
     exact ⟨u,us,h1,B3 (vM.world D) 4 c u h2,ih us h3⟩
   exact this _ _ mY
  rcases tv with tv|sx
  ·refine fin α ej hR (iT w) (zx w) (kB _ _ (SS.lf α) (jH hle Mf)) ?_
   intro H' w' v _ _ gJ _ iy
   exact ⟨η,H,(D.grown gJ).put o.dst (O0 _ _ tv iy)⟩
  ·refine ⟨_,[],hR,λK Q hk=>?_⟩
   unfold Oper.wp
   rw [iw]
   refine (SS.fresh sx α ej (iT w) (iT w) w _ (zx w) (zx w) (kB _ _ (SS.lf α) (jH hle Mf))).mono λe w' ⟨v,N,he,g1,g2,g3,g4,g5,g6,g7,g8⟩=>?_
   subst he
   have gJ:=Kj g1 g6 g7 g8
   let G:bu:=λb=>match H b with
    | some o=>some o
    | none=>N b
   have aoH:H.le G:=λb o hb=>by simp only [G];rw [hb]
   have dw:G.iZ w':=λb o hb=>by
    simp only [G] at hb
    split at hb
    ·rename_i o' ho;simp at hb;subst hb;exact g1 b _ (D.hw b _ ho)
    ·exact g3 b o hb
   have bV:∀b,G b≠none->H b≠none\/w.heap.size<=b:=λb hb=>by
    cases hq:H b with
    | some o=>exact .inl (by simp)
    | none =>
     right
     have:=(g4 b (by simpa only [G,hq] using hb)).1
     unfold iT at this
     simpa using this
   have Tw:N.le G:=λb o hb=>by
    have hn:=(g4 b (by rw [hb];simp)).1
    have:H b=none:=by
     cases hq:H b with
     | none=>rfl
     | some o'=>have:=D.hw b o' hq;unfold iT at hn;rw [this] at hn;cases hn
    simp only [G,this];exact hb
   exact hk η G w' v ((D.share gJ aoH dw bV).put o.dst (pU.up Tw g5))
 ·obtain ⟨α,⟨hle,ej⟩,hR⟩:=h
  refine fin α ej hR H D.hw (kB _ _ (SS.lf α) (jH hle mY)) ?_
  intro H' w' v uB dw gJ bV iy
  exact ⟨η,H',(D.share gJ uB dw bV).put o.dst (pU.up (bu.le.refl H') iy)⟩
theorem HI (D:Den f s η H a w) {v:Value} {x:SV} (hr:∀w,(execOp a.eval o).run P w=.ok (.value v) w) (hx:rel η (aS s.b) H x v) (h:R x []):fm P f s o a w R:=eh D hr hx h
theorem PM (C:X.Ok P) (D:Den f s η H a w) {l:Nat} (hl:fZ o.op=true->s.b[l]?=some .un) (hd:rT o.op=true->o.dst=none)
  (h:(et X s l o.op).K R):fm P f s o a w R:=by
 cases ho:o.op with
 | move x=>rw [ho] at h;exact ZQ D x (.inl ho) h
 | assign x=>rw [ho] at h;exact ZQ D x (.inr ho) h
 | pick c x y=>rw [ho] at h;exact ald D c x y ho h
 | alloc e =>
  rw [ho] at h hl
  simp only [et] at h
  split at h
  ·rename_i i hi;exact aj1 C D (hl rfl) e ho hi h
  ·exact h.elim
 | box e x =>
  rw [ho] at h hl
  simp only [et] at h
  split at h
  ·rename_i i cs hi hc;exact amZ C D (hl rfl) e x ho hc h
  ·exact h.elim
 | build t ps=>rw [ho] at h;exact aj2 C D t ps ho h
 | buildSlice t n ps=>rw [ho] at h hl;exact agB C D (hl rfl) t n ps ho h
 | load t x=>rw [ho] at h;exact alf C D t x ho h
 | store t x y=>rw [ho] at h;exact ajY C D t x y ho (hd (by rw [ho];rfl)) h
 | nilCheck x =>
  rw [ho] at h
  simp only [et] at h
  have hx:=D.ev x
  split at h<;>first|exact h.elim|skip
  ·rename_i l off e
   rw [e] at hx
   have:∃ad,a.eval x=.pointer (some ad):=by
    simp only [rel] at hx
    split at hx
    ·exact hx.elim
    ·exact hx
    ·obtain ⟨bl,_,h⟩:=hx;exact ⟨_,h⟩
   obtain ⟨ad,hp⟩:=this
   exact HI D (v:=a.eval x) (λw=>by simp [execOp,ho,hp]) hx h
  ·rename_i cs off e
   rw [e] at hx
   have:∃ad,a.eval x=.pointer (some ad):=by
    simp only [rel] at hx
    obtain ⟨ad,h,_⟩:=hx;exact ⟨_,h⟩
   obtain ⟨ad,hp⟩:=this
   exact HI D (v:=a.eval x) (λw=>by simp [execOp,ho,hp]) hx h
  ·rename_i fid fs cs e
   rw [e] at hx
   have:∃g1 g2,a.eval x=.func (.func fid) g1 g2:=by
    simp only [rel] at hx
    obtain ⟨g1,g2,h,_⟩:=hx;exact ⟨_,_,h⟩
   obtain ⟨g1,g2,hp⟩:=this
   exact HI D (v:=a.eval x) (λw=>by simp [execOp,ho,hp]) hx h
 | binOp op t x y t'=>rw [ho] at h;exact amW C D op t t' x y ho h
 | unOp op t x=>rw [ho] at h;exact aoy D op t x ho h
 | convert src dst x=>rw [ho] at h;exact ale C D src dst x ho h
 | makeFunc fn first cap =>
  rw [ho] at h
  refine HI D (v:=.func fn (first.map a.eval) (cap.map a.eval)) (λw=>by simp [execOp,ho,Instr.makeFunc]) ?_ h
  simp only [rel]
  refine ⟨first.toList.map a.eval,cap.toList.map a.eval,?_,D.C5 _,D.C5 _⟩
  congr 1<;>(apply mq;simp)
 | makeSlice t n m=>rw [ho] at h hl;exact agP C D (hl rfl) t n m ho h
 | slice t x lo hi mx =>
  rw [ho] at h hl
  exact aj8 C D t x lo hi mx (λhm=>hl (by cases mx<;>simp [fZ] at hm ⊢)) ho h
 | fieldAddr t x j=>rw [ho] at h;exact agN C D t x j ho h
 | field t x j=>rw [ho] at h;exact aj0 C D t x j ho h
 | indexAddr t x ix=>rw [ho] at h;exact agO C D t x ix ho h
 | index t x ix=>rw [ho] at h;exact ajZ C D t x ix ho h
 | makeMap t r =>
  rw [ho] at h hl
  cases r with
  | none=>exact ahO C D (hl rfl) t ho h
  | some r=>exact h.elim
 | lookup t x ix ok=>rw [ho] at h;exact aiL C D t x ix ok ho h
 | mapUpdate t x ix y=>rw [ho] at h;exact V2 C D t x ix y (.inl ho) (hd (by rw [ho];rfl)) h
 | insert t x ix y=>rw [ho] at h;exact V2 C D t x ix y (.inr ho) (hd (by rw [ho];rfl)) h
 | range t x=>rw [ho] at h hl;exact aj5 C D (hl rfl) t x ho h
 | entry x=>rw [ho] at h;exact aj6 D x ho h
 | extract x j =>
  rw [ho] at h
  simp only [et] at h
  have hx:=D.ev x
  split at h<;>first|exact h.elim|skip
  rename_i cs e
  split at h<;>first|exact h.elim|skip
  rename_i v hv
  rw [e] at hx
  simp only [rel] at hx
  obtain ⟨vs,h1,h2⟩:=hx
  obtain ⟨u,h3,h4⟩:=ud h2 j v hv
  exact HI D (v:=u) (λw=>by simp [execOp,ho,h1,Instr.extract,h3]) h4 h
 | call c =>
  rw [ho] at h hl
  simp only [et] at h
  split at h<;>first|exact h.elim|skip
  ·rename_i g hg
   split at h<;>first|exact h.elim|skip
   rename_i fid first cap hv
   exact ali C D ho hg hv h
  ·rename_i bi hg
   obtain ⟨callee,args,argTypes⟩:=c
   simp only at hg h
   subst hg
   unfold zP at h
   split at h<;>first|exact h.elim|skip
   ·split at h<;>first|exact h.elim|skip
    rename_i t x e1 e2
    obtain ⟨x0,e3,rfl⟩:=R8 e2
    have wc:argTypes=#[t]:=by apply mq;simpa using e1
    have l6:args=#[x0]:=by apply mq;simpa using e3
    subst wc;subst l6
    exact am0 C D t x0 ho h
   ·split at h<;>first|exact h.elim|skip
    rename_i t t' x y e1 e2
    split at h
    ·rename_i ht
     subst ht
     obtain ⟨x0,y0,e3,rfl,rfl⟩:=Ik e2
     have wc:argTypes=#[t,t]:=by apply mq;simpa using e1
     have l6:args=#[x0,y0]:=by apply mq;simpa using e3
     subst wc;subst l6
     exact aiK C D (hl rfl) t x0 y0 ho h
    ·obtain ⟨x0,y0,e3,rfl,rfl⟩:=Ik e2
     have wc:argTypes=#[t,t']:=by apply mq;simpa using e1
     have l6:args=#[x0,y0]:=by apply mq;simpa using e3
     subst wc;subst l6
     exact ahP C D (hl rfl) t t' x0 y0 ho h
   ·split at h<;>first|exact h.elim|skip
    rename_i t t' x y e1 e2
    split at h<;>first|exact h.elim|skip
    rename_i ht
    subst ht
    obtain ⟨x0,y0,e3,rfl,rfl⟩:=Ik e2
    have wc:argTypes=#[t,t]:=by apply mq;simpa using e1
    have l6:args=#[x0,y0]:=by apply mq;simpa using e3
    subst wc;subst l6
    exact alg C D t x0 y0 ho h
   ·split at h<;>first|exact h.elim|skip
    rename_i t x e1 e2
    obtain ⟨x0,e3,rfl⟩:=R8 e2
    have wc:argTypes=#[t]:=by apply mq;simpa using e1
    have l6:args=#[x0]:=by apply mq;simpa using e3
    subst wc;subst l6
    exact aj7 C D t x0 ho h
   ·split at h<;>first|exact h.elim|skip
    rename_i x y e2
    obtain ⟨x0,y0,e3,rfl,rfl⟩:=Ik e2
    have l6:args=#[x0,y0]:=by apply mq;simpa using e3
    subst l6
    exact ab6 D .min min argTypes x0 y0 (.inl ⟨rfl,rfl⟩) ho h
    rename_i x y z e2
    obtain ⟨x0,y0,z0,e3,rfl,rfl,rfl⟩:=ab9 e2
    have l6:args=#[x0,y0,z0]:=by apply mq;simpa using e3
    subst l6
    exact aaY D .min min argTypes x0 y0 z0 (.inl ⟨rfl,rfl⟩) ho h
   ·split at h<;>first|exact h.elim|skip
    rename_i x y e2
    obtain ⟨x0,y0,e3,rfl,rfl⟩:=Ik e2
    have l6:args=#[x0,y0]:=by apply mq;simpa using e3
    subst l6
    exact ab6 D .max max argTypes x0 y0 (.inr ⟨rfl,rfl⟩) ho h
    rename_i x y z e2
    obtain ⟨x0,y0,z0,e3,rfl,rfl,rfl⟩:=ab9 e2
    have l6:args=#[x0,y0,z0]:=by apply mq;simpa using e3
    subst l6
    exact aaY D .max max argTypes x0 y0 z0 (.inr ⟨rfl,rfl⟩) ho h
   ·split at h<;>first|exact h.elim|skip
    rename_i t x e1 e2
    obtain ⟨x0,e3,rfl⟩:=R8 e2
    have wc:argTypes=#[t]:=by apply mq;simpa using e1
    have l6:args=#[x0]:=by apply mq;simpa using e3
    subst wc;subst l6
    exact am1 C D t x0 ho h
 | _=>rw [ho] at h;exact h.elim
end
def eC.out:eC->SV->List (Nat × Slot)->Prop
 | .fail,_,_=>False
 | .pure x u,y,v=>y=x/\v=u
 | .lY p x u,y,v=>p ()/\y=x/\v=u
 | .ex T p x u,y,v=>∃t,p t/\y=x t/\v=u t
theorem eC.Mg (A:eC) (R:SV->List (Nat × Slot)->Prop):A.K R↔∃x u,A.out x u/\R x u:=by
 cases A with
 | fail=>simp [eC.K,eC.out]
 | pure x u=>simp only [eC.K,eC.out];exact ⟨λh=>⟨_,_,⟨rfl,rfl⟩,h⟩,λ⟨_,_,⟨h1,h2⟩,h⟩=>by subst h1;subst h2;exact h⟩
 | lY p x u=>simp only [eC.K,eC.out];exact ⟨λh=>⟨_,_,⟨h.1.out,rfl,rfl⟩,h.2⟩,λ⟨_,_,⟨h0,h1,h2⟩,h⟩=>by subst h1;subst h2;exact ⟨⟨h0⟩,h⟩⟩
 | ex T p x u=>simp only [eC.K,eC.out];exact ⟨λ⟨t,h⟩=>⟨_,_,⟨t,h.1.out,rfl,rfl⟩,h.2⟩,λ⟨_,_,⟨t,h0,h1,h2⟩,h⟩=>by subst h1;subst h2;exact ⟨t,⟨h0⟩,h⟩⟩
def vN (ops:List Oper) (o:Oper):Option (Option Tmp × Bool) :=
 match o.guard with
 | none=>none
 | some (j,want)=>some ((ops[j]?).bind (·.dst),want)
def lE:SV->Option SV
 | .bc c=>some (.bc c)
 | .b x=>some (.bc (x ()))
 | .cM []=>some (.cM [])
 | _=>none
def lR (want:Bool):SV->Bool
 | .bc c=>c == want
 | _=>false
def I9 (X:Ctx) (o:Oper) (l:Nat) (s s':St):Prop:=∃x u,(et X s l o.op).out x u/\s'=s.jA o.dst x u
def Out (X:Ctx) (ops:List Oper) (o:Oper) (l:Nat) (s s':St):Prop :=
 match vN ops o with
 | none=>I9 X o l s s'
 | some (none,_)=>False
 | some (some g,want)=>∃y v,s.t[g]?=some y/\lE y=some v /\
  match lR want v with
  | true=>I9 X o l { s with t:=s.t.set g v } s'
  | false=>s'=({ s with t:=s.t.set g v }:St).jA o.dst (.cM []) []
def w9 (X:Ctx) (o:Oper) (l:Nat) (s:St) (k:St->Prop):Prop:=(et X s l o.op).K λx u=>k (s.jA o.dst x u)
def rX (o:Oper) (s:St) (k:St->Prop):Prop:=k (s.jA o.dst (.cM []) [])
def Mh (X:Ctx) (ops:List Oper) (o:Oper) (l:Nat) (s:St) (k:St->Prop):Prop :=
 match vN ops o with
 | none=>w9 X o l s k
 | some (none,_)=>False
 | some (some g,want)=>match s.t[g]? with
  | some (.bc c)=>match c,want with
   | true,true=>w9 X o l s k
   | false,false=>w9 X o l s k
   | _,_=>rX o s k
  | some (.b x)=>match want with
   | true=>(yN x->w9 X o l { s with t:=s.t.set g (.bc true) } k)/\(yO x->rX o { s with t:=s.t.set g (.bc false) } k)
   | false=>(yN x->rX o { s with t:=s.t.set g (.bc true) } k)/\(yO x->w9 X o l { s with t:=s.t.set g (.bc false) } k)
  | some (.cM [])=>rX o s k
  | _=>False
theorem zQ (X:Ctx) (o:Oper) (l:Nat) (s:St) (k:St->Prop):w9 X o l s k↔∃s',I9 X o l s s'/\k s':=by
 unfold w9 I9
 rw [eC.Mg]
 exact ⟨λ⟨x,u,h1,h2⟩=>⟨_,⟨x,u,h1,rfl⟩,h2⟩,λ⟨_,⟨x,u,h1,e⟩,h2⟩=>by subst e;exact ⟨x,u,h1,h2⟩⟩
theorem Lc {α:Type 1} (l:List α) (i:Nat) (x:α) (h:l[i]?=some x):l.set i x=l:=by
 apply qS
 intro j
 rw [gL]
 split
 ·rename_i e;subst e
  have:=(a7.1 h).1
  rw [if_pos this,h]
 ·rfl
theorem W3 (X:Ctx) (ops:List Oper) (o:Oper) (l:Nat) (s:St) (k:St->Prop):Mh X ops o l s k↔∃s',Out X ops o l s s'/\k s':=by
 unfold Mh Out
 split
 ·exact zQ X o l s k
 ·simp
 ·rename_i g want hg
  split
  ·rename_i c hc
   have hs:({ s with t:=s.t.set g (.bc c) }:St)=s:=by rw [Lc _ _ _ hc]
   split
   ·rw [zQ]
    exact ⟨λ⟨s',h1,h2⟩=>⟨s',⟨_,_,hc,rfl,by simpa [lR,hs] using h1⟩,h2⟩,λ⟨s',⟨y,v,e1,e2,h1⟩,h2⟩=>by
     rw [hc] at e1;simp at e1;subst e1;simp [lE] at e2;subst e2;exact ⟨s',by simpa [lR,hs] using h1,h2⟩⟩
   ·rw [zQ]
    exact ⟨λ⟨s',h1,h2⟩=>⟨s',⟨_,_,hc,rfl,by simpa [lR,hs] using h1⟩,h2⟩,λ⟨s',⟨y,v,e1,e2,h1⟩,h2⟩=>by
     rw [hc] at e1;simp at e1;subst e1;simp [lE] at e2;subst e2;exact ⟨s',by simpa [lR,hs] using h1,h2⟩⟩
   ·rename_i n1 n2
    have hw:lR want (.bc c)=false:=by cases c<;>cases want<;>simp_all [lR]
    unfold rX
    exact ⟨λh=>⟨_,⟨_,_,hc,rfl,by rw [hw,hs]⟩,h⟩,λ⟨s',⟨y,v,e1,e2,h1⟩,h2⟩=>by
     rw [hc] at e1;simp at e1;subst e1;simp [lE] at e2;subst e2;rw [hw,hs] at h1;simp only at h1;subst h1;exact h2⟩
  ·rename_i x hx
   have key:∀(A B:St->Prop),(((yN x->A { s with t:=s.t.set g (.bc true) })/\(yO x->B { s with t:=s.t.set g (.bc false) })) ↔
     (if x () then A { s with t:=s.t.set g (.bc (x ())) } else B { s with t:=s.t.set g (.bc (x ())) })):=by
    intro A B
    cases h:x ()
    ·simp only [oX,if_false]
     exact ⟨λhh=>hh.2 ⟨h⟩,λhh=>⟨λt=>(by have:=t.out;rw [h] at this;cases this),λ_=>hh⟩⟩
    ·simp only [if_true]
     exact ⟨λhh=>hh.1 ⟨h⟩,λhh=>⟨λ_=>hh,λt=>(by have:=t.out;rw [h] at this;cases this)⟩⟩
   have FN:∀(Z:SV->Prop),(∃y v,s.t[g]?=some y/\lE y=some v/\Z v)↔Z (.bc (x ())):=by
    intro Z
    exact ⟨λ⟨y,v,e1,e2,h⟩=>by rw [hx] at e1;simp at e1;subst e1;simp [lE] at e2;subst e2;exact h,λh=>⟨_,_,hx,rfl,h⟩⟩
   split
   ·rw [key (λs=>w9 X o l s k) (λs=>rX o s k)]
    constructor
    ·intro h
     cases hb:x ()
     ·rw [hb] at h;simp only [oX,if_false] at h
      exact ⟨_,(FN _).2 (by rw [hb];simp [lR]),h⟩
     ·rw [hb] at h;simp only [if_true] at h
      obtain ⟨s',h1,h2⟩:=(zQ X o l _ k).1 h
      exact ⟨s',(FN _).2 (by rw [hb];simpa [lR] using h1),h2⟩
    ·rintro ⟨s',h1,h2⟩
     have h1:=(FN _).1 h1
     cases hb:x ()
     ·rw [hb] at h1;simp [lR] at h1;subst h1
      simpa only [oX,if_false,rX] using h2
     ·rw [hb] at h1;simp [lR] at h1
      simp only [if_true]
      exact (zQ X o l _ k).2 ⟨s',h1,h2⟩
   ·rw [key (λs=>rX o s k) (λs=>w9 X o l s k)]
    constructor
    ·intro h
     cases hb:x ()
     ·rw [hb] at h;simp only [oX,if_false] at h
      obtain ⟨s',h1,h2⟩:=(zQ X o l _ k).1 h
      exact ⟨s',(FN _).2 (by rw [hb];simpa [lR] using h1),h2⟩
     ·rw [hb] at h;simp only [if_true] at h
      exact ⟨_,(FN _).2 (by rw [hb];simp [lR]),h⟩
    ·rintro ⟨s',h1,h2⟩
     have h1:=(FN _).1 h1
     cases hb:x ()
     ·rw [hb] at h1;simp [lR] at h1
      simp only [oX,if_false]
      exact (zQ X o l _ k).2 ⟨s',h1,h2⟩
     ·rw [hb] at h1;simp [lR] at h1;subst h1
      simpa only [if_true,rX] using h2
  ·rename_i hx
   have hs:({ s with t:=s.t.set g (.cM []) }:St)=s:=by rw [Lc _ _ _ hx]
   unfold rX
   exact ⟨λh=>⟨_,⟨_,_,hx,rfl,by rw [hs];simp [lR]⟩,h⟩,λ⟨s',⟨y,v,e1,e2,h1⟩,h2⟩=>by
     rw [hx] at e1;simp at e1;subst e1;simp [lE] at e2;subst e2;rw [hs] at h1;simp [lR] at h1;subst h1;exact h2⟩
  ·rename_i n1 n2 n3
   refine ⟨λh=>h.elim,λ⟨s',⟨y,v,e1,e2,_⟩,_⟩=>?_⟩
   unfold lE at e2
   split at e2
   ·exact n1 _ e1
   ·exact n2 _ e1
   ·exact n3 e1
   ·cases e2
section
variable {P:Program} {X:Ctx} {f:Fr} {s:St} {η:Nat->Value} {H:bu} {a:Act} {w:World} {o:Oper}
theorem Den.ZS (D:Den f s η H a w) {g:Tmp} {d:Bool} {p:Unit->Prop} (hy:s.t[g]?=some (.nb d p)):∃c,a.tmps.getD g undef=.bool c/\(c=d->p ()):=by
 have hr:=D.B2 g
 rw [hy] at hr
 simpa only [tX,rel] using hr
theorem Den.ZT (D:Den f s η H a w) {g:Tmp} {y v:SV} (hy:s.t[g]?=some y) (pn:rel η (aS s.b) H v (a.tmps.getD g undef)) :
  Den f { s with t:=s.t.set g v } η H a w:=by
 refine { D with t:=?_ }
 obtain ⟨u,h1,h2⟩:=ud D.t g y hy
 have h3:=x7 D.t g (x:=v) (u:=u) (by
  have:a.tmps.getD g undef=u:=by
   have h3:a.tmps[g]?=some u:=by simpa using h1
   simp [Hj,h3]
  rw [this] at pn
  exact pn)
 have h4:a.tmps.toList.set g u=a.tmps.toList:=by
  apply qS
  intro j
  rw [gL]
  split
  ·rename_i e;subst e
   have:=(a7.1 h1).1
   rw [if_pos this,h1]
  ·rfl
 rwa [h4] at h3
theorem Den.guard (D:Den f s η H a w) {g:Tmp} {y v:SV} (hy:s.t[g]?=some y) (hv:lE y=some v) :
  Den f { s with t:=s.t.set g v } η H a w/\rel η (aS s.b) H v (a.tmps.getD g undef):=by
 have hr:=D.B2 g
 rw [hy] at hr
 simp only [tX] at hr
 have pn:rel η (aS s.b) H v (a.tmps.getD g undef):=by
  unfold lE at hv
  split at hv
  ·simp at hv;subst hv;exact hr
  ·simp at hv;subst hv;simpa only [rel] using hr
  ·simp at hv;subst hv;exact hr
  ·cases hv
 refine ⟨{ D with t:=?_ },pn⟩
 obtain ⟨u,h1,h2⟩:=ud D.t g y hy
 have h3:=x7 D.t g (x:=v) (u:=u) (by
  have:a.tmps.getD g undef=u:=by
   have h3:a.tmps[g]?=some u:=by simpa using h1
   simp [Hj,h3]
  rw [this] at pn
  exact pn)
 have h4:a.tmps.toList.set g u=a.tmps.toList:=by
  apply qS
  intro j
  rw [gL]
  split
  ·rename_i e;subst e
   have:=(a7.1 h1).1
   rw [if_pos this,h1]
  ·rfl
 rw [h4] at h3
 exact h3
theorem X0 (D:Den f s η H a w) {g:Tmp} {y:SV} (hy:s.t[g]?=some y):a.tmps[g]?=some (a.tmps.getD g undef):=by
 obtain ⟨u,h1,h2⟩:=ud D.t g y hy
 have h3:a.tmps[g]?=some u:=by simpa using h1
 simp [Hj,h3]
def Qw (o:Oper) (l:Nat) (s:St):Prop:=fZ o.op=true->s.b[l]?=some .un
def EA (o:Oper):Prop:=rT o.op=true->o.dst=none
theorem Hf (C:X.Ok P) (D:Den f s η H a w) {ops:Array Oper} {i:Nat} (hi:ops[i]?=some o) {l:Nat} (hl:Qw o l s) (hs:EA o) {s':St} (h:Out X ops.toList o l s s')
  {Q:Exit->Act->World->Prop} {K:Act->World->Prop} (hK:∀η' H' a' w',Den f s' η' H' a' w'->K a' w'):wpOp P ops Q i K a w:=by
 have did:∀{s0:St},Den f s0 η H a w->s0.b=s.b->I9 X o l s0 s'->o.wp P a w K Q:=by
  intro s0 D0 hb ⟨x,u,ho,e⟩
  have:=PM (R:=λx' u'=>x'=x/\u'=u) C D0 (l:=l) (λha=>by rw [hb];exact hl ha) hs ((eC.Mg _ _).2 ⟨x,u,ho,rfl,rfl⟩)
  obtain ⟨x',u',⟨rfl,rfl⟩,y3⟩:=this
  exact y3 K Q λη' H' w' v D'=>hK η' H' _ w' (by rw [e];exact D')
 have am4:∀{j:Nat} {want:Bool},o.guard=some (j,want)->Region.wanted o (yielded ops a.tmps)=(yielded ops a.tmps j == some want):=λhg=>by simp [Region.wanted,hg]
 unfold wpOp
 rw [hi]
 simp only
 unfold Out vN at h
 split at h
 ·rename_i hg
  have IZ:o.guard=none:=by
   cases hq:o.guard with
   | none=>rfl
   | some p=>rw [hq] at hg;cases hg
  rw [if_pos (by simp [Region.wanted,IZ])]
  exact .inl (did D rfl h)
 ·exact h.elim
 ·rename_i g want hg
  obtain ⟨y,v,hy,hv,h⟩:=h
  cases hq:o.guard with
  | none=>rw [hq] at hg;cases hg
  | some p =>
   obtain ⟨j,Rx⟩:=p
   rw [hq] at hg
   simp at hg
   obtain ⟨Da,rfl⟩:=hg
   obtain ⟨D0,hr⟩:=D.guard hy hv
   have lH:yielded ops a.tmps j=match a.tmps.getD g undef with|.bool b=>some b|_=>none:=by
    have j2:(ops[j]?).bind (·.dst)=some g:=by simpa using Da
    unfold yielded
    rw [j2]
    simp only [Option.bind_some,X0 D hy]
    cases a.tmps.getD g undef<;>rfl
   rw [am4 hq,lH]
   have qE:(∃c,v=.bc c)\/v=.cM []:=by
    unfold lE at hv
    split at hv<;>simp at hv
    ·exact .inl ⟨_,hv.symm⟩
    ·exact .inl ⟨_,hv.symm⟩
    ·exact .inr hv.symm
   rcases qE with ⟨c,rfl⟩|rfl
   ·simp only [rel] at hr
    rw [hr]
    simp only
    by_cases hc:c=Rx
    ·subst hc
     simp only [lR,beq_self_eq_true] at h
     simp only [beq_self_eq_true,if_true]
     exact .inl (did D0 rfl h)
    ·have h1:(c == Rx)=false:=by simpa using hc
     have h2:(some c == some Rx)=false:=by simpa using hc
     rw [if_neg (by rw [h2];simp)]
     simp only [lR,h1] at h
     refine hK η H _ w ?_
     rw [h]
     exact Den.put D0 o.dst (by simp only [rel];exact ⟨[],rfl,by simp [aP]⟩)
   ·have Ja:∀b,a.tmps.getD g undef≠.bool b:=by
     intro b hb
     simp only [rel] at hr
     obtain ⟨vs,h1,_⟩:=hr
     rw [hb] at h1;cases h1
    rw [if_neg (by
     cases y4:a.tmps.getD g undef with
     | bool b=>exact absurd y4 (Ja b)
     | _=>simp)]
    simp only [lR] at h
    refine hK η H _ w ?_
    rw [h]
    exact Den.put D0 o.dst (by simp only [rel];exact ⟨[],rfl,by simp [aP]⟩)
theorem aiO {K:Act->World->Prop} (h:o.wp P a w K λ_ _ _=>False):∃a' w',K a' w':=by
 unfold Oper.wp at h
 generalize (execOp a.eval o).run P w=r at h
 cases r with
 | ok n w' =>
  cases n<;>simp only [Oper.upon] at h
  case value v=>exact ⟨_,_,h⟩
  case skip=>exact ⟨_,_,h⟩
  case defer d=>exact ⟨_,_,h⟩
  case enter g args =>
   obtain ⟨e,w',fr,hR,_⟩:=h []
   cases e with
   | returned v=>exact ⟨_,_,hR⟩
   | panicked c=>exact hR.elim
   | outgrown=>obtain ⟨_,_,h⟩:=hR;exact h.elim
  case row row args =>
   obtain ⟨v,w',hR,_⟩:=h default []
   exact ⟨_,_,hR⟩
 | halt x w'=>cases x<;>simp only [Oper.upon] at h
def Good (f:Fr) (s:St):Prop:=∃η H a w,Den f s η H a w
theorem Good.out (C:X.Ok P) (G:Good f s) {ops:Array Oper} {i:Nat} (hi:ops[i]?=some o) {l:Nat} (hl:Qw o l s) (hs:EA o) {s':St} (h:Out X ops.toList o l s s'):Good f s':=by
 obtain ⟨η,H,a,w,D⟩:=G
 have:=Hf C D hi hl hs h (Q:=λ_ _ _=>False) (K:=λ_ _=>Good f s') (λη' H' a' w' D'=>⟨η',H',a',w',D'⟩)
 unfold wpOp at this
 rw [hi] at this
 simp only at this
 split at this
 ·rcases this with this|⟨_,_,_,h⟩
  ·obtain ⟨_,_,h⟩:=aiO this;exact h
  ·exact h.elim
 ·exact this
end
end Go.Vc
