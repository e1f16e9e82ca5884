import Derived.Test.YthnhbemmlfaihaaR4
set_option linter.unusedVariables false
set_option linter.unusedSimpArgs false
set_option maxRecDepth 10000
set_option maxHeartbeats 64000000
namespace Go.Vc
open Go
section
variable {P:Program} {X:Ctx} {f:Fr} {s:St} {η:Nat->Value} {H:aV} {a:Act} {w:World} {o:Oper} {R:SV->List (Nat × Slot)->Prop}
theorem Ey {q:Nat->Live} {lo:Option Operand} {m:Unit->Int} (D:Den f s η H a w) (h:lower (lo.map (Vc.ev s))=some m) :
  (lo=none/\m ()=0)\/∃x k,lo=some x/\a.eval x=.int k (m ()):=by
 cases lo with
 | none=>simp [lower] at h;subst h;exact .inl ⟨rfl,rfl⟩
 | some x =>
  simp only [zk,lower] at h
  split at h
  ·rename_i k n hn
   simp at h;subst h
   exact .inr ⟨x,k,rfl,lF hn (D.ev x)⟩
  ·cases h
theorem Ez {q:Nat->Live} {len:Unit->Nat} {hi:Option Operand} {m:Unit->Int} (D:Den f s η H a w) (h:bound len (hi.map (Vc.ev s))=some m) :
  (hi=none/\m ()=len ())\/∃x k,hi=some x/\a.eval x=.int k (m ()):=by
 cases hi with
 | none=>simp [bound] at h;subst h;exact .inl ⟨rfl,rfl⟩
 | some x =>
  simp only [zk,bound] at h
  split at h
  ·rename_i k n hn
   simp at h;subst h
   exact .inr ⟨x,k,rfl,lF hn (D.ev x)⟩
  ·cases h
theorem Bo (b:Bool) (len cap:Nat) (lo hi:Option Value) (m n:Int) (gg:(lo=none/\m=0)\/∃k,lo=some (.int k m)) (jL:(hi=none/\n=len)\/∃k,hi=some (.int k n))
  (h0:0<=m) (h1:m<=n) (h2:n<=cap) (w:World):(Instr.sliceBounds b len cap lo hi none).run P w=.ok (m.toNat,n.toNat,cap) w:=by
 have hn:0<=n/\n<=(cap:Int):=by omega
 have hm:0<=m/\m<=(n.toNat:Int):=by omega
 rcases gg with ⟨rfl,rfl⟩|⟨k,rfl⟩<;>rcases jL with ⟨rfl,rfl⟩|⟨k',rfl⟩ <;>
  simp [Instr.sliceBounds,Instr.sliceBound,asIntOf,hn,hm]<;>(intro h;omega)
theorem TL (D:Den f s η H a w) {t e:TypeId} {x:Operand} {lo hi:Option Operand} {k:TI} (Kk:k9 P e k) (bQ:P.underlying t=some (.slice e)) (ho:o.op=.slice t x lo hi none)
  {T:Type} {c:T->List SV} {xs:Unit->List T} (hx:rel η (aN s.b) H (.sl k.size c xs) (a.eval x)) {m n:Unit->Int} {ln:Unit->Nat} (jM:ln ()=(xs ()).length) (hm:lower (lo.map (Vc.ev s))=some m) (hn:bound ln (hi.map (Vc.ev s))=some n)
  (h0:0<=m ()) (h1:m ()<=n ()) (h2:n ()<=(xs ()).length) (hR:R (.sl k.size c λ_=>((xs ()).take (n ()).toNat).drop (m ()).toNat) []):eJ P f s o a w R:=by
 simp only [rel] at hx
 obtain ⟨⟨ad,cap,h3,h4,h5⟩,bY⟩:=hx
 have gg:=Ey (q:=aN s.b) D hm
 have jL:=Ez (q:=aN s.b) D hn
 rw [jM] at jL
 have hb:=Bo (P:=P) true (xs ()).length cap (lo.map a.eval) (hi.map a.eval) (m ()) (n ())
  (by
    rcases gg with ⟨rfl,h⟩|⟨y,k,rfl,h⟩
    ·exact .inl ⟨rfl,h⟩
    ·exact .inr ⟨k,by simp [h]⟩)
  (by
    rcases jL with ⟨rfl,h⟩|⟨y,k,rfl,h⟩
    ·exact .inl ⟨rfl,h⟩
    ·exact .inr ⟨k,by simp [h]⟩) h0 h1 (by omega)
 have hlen:(((xs ()).take (n ()).toNat).drop (m ()).toNat).length=(n ()).toNat - (m ()).toNat:=by simp;omega
 refine dH D (v:=.slice (if cap=(m ()).toNat then ad else ad.map (·.add ((m ()).toNat*k.size))) ((n ()).toNat - (m ()).toNat) (cap - (m ()).toNat)) (λw=>?_) ?_ hR
 ·simp only [execOp,ho,h3,Sem.run_bind,Instr.sliceAt,run_underlying bQ,Result.andThen_ok,Instr.slice,zl,hb,run_sizeOf Kk,Sem.run_pure]
 ·simp only [rel,hlen]
  refine ⟨⟨_,_,rfl,by omega,?_⟩,bY⟩
  by_cases hz:(n ()).toNat - (m ()).toNat=0
  ·left;exact gI (by rw [hlen];exact hz)
  right
  rcases h5 with h5|⟨a0,rfl,fx,h6⟩
  ·rw [h5] at h2;simp at h2;omega
  refine ⟨a0.add ((m ()).toNat*k.size),?_,by rw [nV _ fx],λj y hy=>?_⟩
  ·rw [if_neg (by omega)];rfl
  ·rw [iZ,kE] at hy
   split at hy
   ·obtain ⟨vals,g1,g2,g3⟩:=h6 _ y hy
    refine ⟨vals,g1,g2,?_⟩
    rw [nV _ fx]
    rw [show a0.off+(m ()).toNat*k.size+j*k.size=a0.off+((m ()).toNat+j)*k.size by rw [Nat.add_mul];omega]
    exact g3
   ·cases hy
theorem aeQ (C:X.Ok P) (D:Den f s η H a w) {l:Nat} (t:TypeId) (x:Operand) (lo hi mx:Option Operand) (hl:mx.isSome=true->s.b[l]?=some .un) (ho:o.op=.slice t x lo hi mx)
  (h:(xY X s.b l t (Vc.ev s x) (lo.map (Vc.ev s)) (hi.map (Vc.ev s)) (mx.map (Vc.ev s))).K R):eJ P f s o a w R:=by
 have hx:=D.ev x
 unfold xY at h
 split at h<;>first|exact h.elim|skip
 rename_i i j6
 have I:=C.tt _ _ j6
 have bQ:=I.desc
 split at h<;>first|exact h.elim|skip
 ·rename_i e hd
  rw [hd] at bQ
  split at h<;>first|exact h.elim|skip
  rename_i k hk
  have Kk:=C.tt _ _ hk
  split at h
  ·rename_i hc
   simp only [cu] at hc
   obtain ⟨wP,JZ⟩:=hc
   split at h<;>first|exact h.elim|skip
   rename_i E hE
   have EE:=C.el _ _ hE
   have fV:Value.isSlice (a.eval x):=by
    cases hq:Vc.ev s x<;>rw [hq] at JZ hx<;>simp [Xq] at JZ<;>simp only [rel] at hx
    ·exact ⟨_,_,_,hx⟩
    ·split at hx
     ·exact hx.elim
     ·exact hx
     ·exact hx.2
    ·obtain ⟨ad,hx,_⟩:=hx;exact ⟨_,_,_,hx⟩
    ·obtain ⟨⟨ad,cap,hx,_⟩,_⟩:=hx;exact ⟨_,_,_,hx⟩
   obtain ⟨ad,n,cp,wQ⟩:=fV
   have hb:∃y z k1 k2,lo=none/\hi=some y/\mx=some z/\a.eval y=.int k1 0/\a.eval z=.int k2 0:=by
    unfold clip at wP
    split at wP
    ·rename_i k1 k2 e1 e2 e3
     cases lo<;>simp at e1
     cases hi<;>simp at e2
     cases mx<;>simp at e3
     rename_i y z
     have hy:=D.ev y
     have hz:=D.ev z
     rw [e2] at hy;rw [e3] at hz
     simp only [rel] at hy hz
     exact ⟨y,z,_,_,rfl,rfl,rfl,hy,hz⟩
    ·cases wP
   obtain ⟨y,z,k1,k2,rfl,rfl,rfl,hy,hz⟩:=hb
   refine vM D (hl rfl) (v:=.slice ad 0 0) (w':=w) ?_ (nU w none) (λb hb=>by cases ad<;>simp [bS] at hb) ⟨_,_,_,rfl⟩ ?_ h
   ·simp [execOp,ho,hy,hz,wQ,Instr.sliceAt,run_underlying bQ,Instr.slice,Instr.sliceBounds,Instr.sliceBound,asIntOf,run_sizeOf Kk]
   ·exact ⟨[],.inr ⟨⟨ad,rfl⟩,rfl,rfl⟩,by simp [aK],by simp,EE.lf⟩
  ·split at h<;>first|exact h.elim|skip
   ·rename_i T sz c xs z ex em
    split at h<;>first|exact h.elim|skip
    rename_i eF
    subst eF
    split at h<;>first|exact h.elim|skip
    rename_i kn n kz m Pp hn hz
    obtain ⟨⟨h1,h2⟩,hR⟩:=h
    obtain ⟨mz,rfl,emz⟩:∃mz,mx=some mz/\Vc.ev s mz=z:=by
     cases mx with
     | none=>cases em
     | some mz=>simp at em;exact ⟨mz,rfl,em⟩
    have Of:lo=none:=by cases lo<;>simp at Pp;rfl
    subst Of
    rw [ex] at hx
    simp only [rel] at hx
    obtain ⟨⟨ad,cap,h3,h4,h5⟩,bY⟩:=hx
    obtain ⟨yh,rfl,hyh⟩:∃yh,hi=some yh/\(Vc.ev s yh).jg=some (kn,n):=by
     cases hi with
     | none=>cases hn
     | some yh=>exact ⟨yh,rfl,by simpa using hn⟩
    have ve:=lF hyh (D.ev yh)
    have hmz:a.eval mz=.int kz (m ()):=lF (by rw [<-emz] at hz;exact hz) (D.ev mz)
    have hb:(Instr.sliceBounds true (xs ()).length cap none (some (a.eval yh)) (some (a.eval mz))).run P w=.ok (0,(xs ()).length,(xs ()).length) w:=by
     rw [hmz]
     have q1:0<=m ()/\m ()<=(cap:Int):=by omega
     have q2:(m ()).toNat=(xs ()).length:=by omega
     have q3:(n ()).toNat=(xs ()).length:=by omega
     have q4:0<=n ()/\n ()<=m ():=by omega
     have q5:((xs ()).length:Int)<=(cap:Int):=by omega
     rw [ve,h1,h2]
     simp [Instr.sliceBounds,Instr.sliceBound,asIntOf,q5]
    refine vW D (v:=.slice (if (xs ()).length=0 then ad else ad.map (·.add (0*k.size))) (xs ()).length (xs ()).length) (w':=w) ?_ (nU w none) ?_ hR
    ·simp only [execOp,ho,h3,Sem.run_bind,Instr.sliceAt,run_underlying bQ,Result.andThen_ok,Instr.slice,zl,zk,hb,run_sizeOf Kk,Sem.run_pure,Ef]
    ·simp only [rel]
     refine ⟨⟨_,rfl,?_⟩,bY⟩
     rcases h5 with h5|⟨a0,rfl,fx,h6⟩
     ·exact .inl h5
     by_cases j5:xs ()=[]
     ·exact .inl j5
     right
     have:(xs ()).length≠0:=λe=>j5 (gI e)
     refine ⟨a0,?_,fx,h6⟩
     rw [if_neg this]
     simp [nV _ fx]
     cases a0;simp_all
   ·rename_i T sz c xs ex em
    split at h<;>first|exact h.elim|skip
    rename_i eF
    subst eF
    split at h<;>first|exact h.elim|skip
    rename_i m n hm hn
    obtain ⟨⟨h0,h1,h2⟩,hR⟩:=h
    have rh:mx=none:=by cases mx<;>simp at em;rfl
    subst rh
    rw [ex] at hx
    simp only [rel] at hx
    obtain ⟨⟨ad,cap,h3,h4,h5⟩,bY⟩:=hx
    exact TL D Kk bQ ho (by simp only [rel];exact ⟨⟨ad,cap,h3,h4,h5⟩,bY⟩) rfl hm hn h0 h1 h2 hR
   ·rename_i l0 ex em
    split at h<;>first|exact h.elim|skip
    rename_i T e' sz c xs hs
    split at h<;>first|exact h.elim|skip
    rename_i eF
    subst eF
    split at h<;>first|exact h.elim|skip
    rename_i m n hm hn
    obtain ⟨⟨h0,h1,h2⟩,hR⟩:=h
    have rh:mx=none:=by cases mx<;>simp at em;rfl
    subst rh
    rw [ex] at hx
    simp only [rel,bR hs,Slot.live] at hx
    obtain ⟨vals,lR,h4,h5,jh⟩:=D.sl l0 _ hs
    obtain ⟨ad,cap,fV,tI⟩:=lR.slice
    have gg:=Ey (q:=aN s.b) D hm
    have jL:=Ez (q:=aN s.b) D hn
    have hb:=Bo (P:=P) true (xs ()).length cap (lo.map a.eval) (hi.map a.eval) (m ()) (n ())
     (by
       rcases gg with ⟨rfl,h⟩|⟨y,k,rfl,h⟩
       ·exact .inl ⟨rfl,h⟩
       ·exact .inr ⟨k,by simp [h]⟩)
     (by
       rcases jL with ⟨rfl,h⟩|⟨y,k,rfl,h⟩
       ·exact .inl ⟨rfl,h⟩
       ·exact .inr ⟨k,by simp [h]⟩) h0 h1 (by omega)
    have lT:a.eval x=.slice ad (xs ()).length cap:=hx.1.trans fV
    refine dH D (v:=.slice (if cap=(m ()).toNat then ad else ad.map (·.add ((m ()).toNat*k.size))) ((n ()).toNat - (m ()).toNat) (cap - (m ()).toNat)) (λw=>?_) ?_ hR
    ·simp only [execOp,ho,lT,Sem.run_bind,Instr.sliceAt,run_underlying bQ,Result.andThen_ok,Instr.slice,zl,hb,run_sizeOf Kk,Sem.run_pure]
    ·simp only [rel,bR hs,Slot.live]
     refine ⟨ad,_,cap,fV,by omega,by omega,_,_,rfl,by omega,λaP=>?_,λh=>⟨by rw [h];split<;>cases ad<;>simp [Addr.add],by omega⟩⟩
     have h3:=lR.pos (show 0 < (xs ()).length by omega)
     rcases h3.2 with ⟨lU,_⟩|⟨g,oW,cur,hg,_,_,_⟩
     ·rw [fV] at lU;simp at lU;omega
     ·rw [fV] at hg;simp at hg
      refine ⟨g,hg.1,?_⟩
      rw [if_neg (by omega),hg.1]
      simp [pk]
   ·rename_i l0 sz g h' ex em
    split at h<;>first|exact h.elim|skip
    rename_i T e' iV c xs hs
    split at h<;>first|exact h.elim|skip
    rename_i eF
    subst eF
    split at h<;>first|exact h.elim|skip
    rename_i m n hm hn
    obtain ⟨⟨h0,h1,h2⟩,hR⟩:=h
    have rh:mx=none:=by cases mx<;>simp at em;rfl
    subst rh
    rw [ex] at hx
    simp only [rel,bR hs,Slot.live] at hx
    obtain ⟨ad,nn,c0,p1,p2,p3,kB,cap,lT,p5,p6,p7⟩:=hx
    have gg:=Ey (q:=aN s.b) D hm
    have jL:=Ez (q:=aN s.b) D hn
    have hb:=Bo (P:=P) true (h' () - g ()) cap (lo.map a.eval) (hi.map a.eval) (m ()) (n ())
     (by
       rcases gg with ⟨rfl,h⟩|⟨y,k,rfl,h⟩
       ·exact .inl ⟨rfl,h⟩
       ·exact .inr ⟨k,by simp [h]⟩)
     (by
       rcases jL with ⟨rfl,h⟩|⟨y,k,rfl,h⟩
       ·exact .inl ⟨rfl,h⟩
       ·exact .inr ⟨k,by simp [h]⟩) h0 h1 (by omega)
    refine dH D (v:=.slice (if cap=(m ()).toNat then kB else kB.map (·.add ((m ()).toNat*k.size))) ((n ()).toNat - (m ()).toNat) (cap - (m ()).toNat)) (λw=>?_) ?_ hR
    ·simp only [execOp,ho,lT,Sem.run_bind,Instr.sliceAt,run_underlying bQ,Result.andThen_ok,Instr.slice,zl,hb,run_sizeOf Kk,Sem.run_pure]
    ·simp only [rel,bR hs,Slot.live]
     refine ⟨ad,nn,c0,p1,by omega,by omega,_,_,by rw [show g ()+(n ()).toNat - (g ()+(m ()).toNat)=(n ()).toNat - (m ()).toNat by omega],by omega,λaP=>?_,λh=>⟨by rw [show (m ()).toNat=0 by omega,<-(p7 (by omega)).1];split<;>cases kB<;>simp [Addr.add],by rw [<-(p7 (by omega)).2];omega⟩⟩
     obtain ⟨bl,q1,q2⟩:=p6 (by omega)
     refine ⟨bl,q1,?_⟩
     rw [if_neg (by omega),q2]
     simp [pk,Nat.add_mul]
   ·rename_i ex em
    split at h<;>first|exact h.elim|skip
    rename_i k' Pp Pq
    have rh:mx=none:=by cases mx<;>simp at em;rfl
    have Of:lo=none:=by cases lo<;>simp at Pp;rfl
    subst rh;subst Of
    rw [ex] at hx
    simp only [rel] at hx
    cases hi with
    | none=>simp at Pq
    | some y =>
     have hy:=D.ev y
     simp only [zk,pX] at Pq
     rw [Pq] at hy
     simp only [rel] at hy
     have hb:=Bo (P:=P) true 0 0 none (some (a.eval y)) 0 0 (.inl ⟨rfl,rfl⟩) (.inr ⟨k',by rw [hy]⟩) (by omega) (by omega) (by omega)
     refine dH D (v:=.slice none 0 0) (λw=>?_) (by simp only [rel]) h
     simp only [execOp,ho,hx,Sem.run_bind,Instr.sliceAt,run_underlying bQ,Result.andThen_ok,Instr.slice,zl,zk,hb,run_sizeOf Kk,Sem.run_pure]
     rfl
   ·rename_i cs n ex em
    split at h<;>first|exact h.elim|skip
    rename_i E hE
    have EE:=C.el _ _ hE
    split at h<;>first|exact h.elim|skip
    rename_i m n' hm hn
    obtain ⟨l,⟨jj,lx,h0,h1,h2⟩,hR⟩:=h
    have rh:mx=none:=by cases mx<;>simp at em;rfl
    subst rh
    rw [ex] at hx
    have jy:=r9 (Le.dO (c:=E.c) (ys:=λ_=>l) jj (λy _=>EE.len k hk y) (λx=>(EE.lf x).1) lx) hx
    exact TL D Kk bQ ho jy jj.symm hm hn h0 h1 (by omega) hR
 ·rename_i hd
  rw [hd] at bQ
  split at h<;>first|exact h.elim|skip
  rename_i y ex em
  split at h<;>first|exact h.elim|skip
  rename_i m n hm hn
  obtain ⟨⟨h0,h1,h2⟩,hR⟩:=h
  have rh:mx=none:=by cases mx<;>simp at em;rfl
  subst rh
  rw [ex] at hx
  simp only [rel] at hx
  have gg:=Ey (q:=aN s.b) D hm
  have jL:=Ez (q:=aN s.b) D hn
  have hb:=Bo (P:=P) false (y ()).size (y ()).size (lo.map a.eval) (hi.map a.eval) (m ()) (n ())
    (by
      rcases gg with ⟨rfl,h⟩|⟨y,k,rfl,h⟩
      ·exact .inl ⟨rfl,h⟩
      ·exact .inr ⟨k,by simp [h]⟩)
    (by
      rcases jL with ⟨rfl,h⟩|⟨y,k,rfl,h⟩
      ·exact .inl ⟨rfl,h⟩
      ·exact .inr ⟨k,by simp [h]⟩) h0 h1 (by omega)
  refine dH D (v:=.string ((y ()).extract (m ()).toNat (n ()).toNat)) (λw=>?_) (by simp only [rel]) hR
  simp [execOp,ho,hx,Instr.sliceAt,run_underlying bQ,Instr.slice,hb]
 ·rename_i n e hd
  rw [hd] at bQ
  split at h<;>first|exact h.elim|skip
  rename_i k E hk hE
  have Kk:=C.tt _ _ hk
  have EE:=C.el _ _ hE
  split at h<;>first|exact h.elim|skip
  rename_i cs off ex em
  split at h<;>first|exact h.elim|skip
  rename_i m hh hm hn
  obtain ⟨l,⟨jj,lx,h0,h1,h2⟩,hR⟩:=h
  have rh:mx=none:=by cases mx<;>simp at em;rfl
  subst rh
  rw [ex] at hx
  simp only [rel] at hx
  obtain ⟨a0,hv,vals,jd,xZ⟩:=hx
  have gg:=Ey (q:=aN s.b) D hm
  have jL:=Ez (q:=aN s.b) D hn
  have hb:=Bo (P:=P) false n n (lo.map a.eval) (hi.map a.eval) (m ()) (hh ())
    (by
      rcases gg with ⟨rfl,h⟩|⟨y,k,rfl,h⟩
      ·exact .inl ⟨rfl,h⟩
      ·exact .inr ⟨k,by simp [h]⟩)
    (by
      rcases jL with ⟨rfl,h⟩|⟨y,k,rfl,h⟩
      ·exact .inl ⟨rfl,h⟩
      ·exact .inr ⟨k,by simp [h]⟩) h0 h1 (by omega)
  have hlen:((l.take (hh ()).toNat).drop (m ()).toNat).length=(hh ()).toNat - (m ()).toNat:=by simp;omega
  have J0:=iw lx (BF (BE jd off) (n*k.size))
  refine dH D (v:=.slice (some (if n=(m ()).toNat then ⟨a0.block,a0.off+off,none⟩ else (⟨a0.block,a0.off+off,none⟩:Addr).add ((m ()).toNat*k.size))) ((hh ()).toNat - (m ()).toNat) (n - (m ()).toNat)) (λw=>?_) ?_ hR
  ·simp only [execOp,ho,hv,Sem.run_bind,Instr.sliceAt,run_underlying bQ,Result.andThen_ok,Instr.sureAddr,zl,hb,run_sizeOf Kk,Sem.run_pure]
  ·simp only [rel,hlen]
   refine ⟨⟨_,_,rfl,by omega,?_⟩,λx=>(EE.lf x).1⟩
   by_cases hz:(hh ()).toNat - (m ()).toNat=0
   ·left;exact gI (by rw [hlen];exact hz)
   right
   refine ⟨_,rfl,?_,λj y hy=>?_⟩
   ·rw [if_neg (by omega),nV _ rfl]
   ·rw [iZ,kE] at hy
    split at hy
    ·have g:=xo (λx _=>EE.len k hk x) J0 _ y hy
     refine ⟨_,?_,g,?_⟩
     ·rw [gZ g];exact EE.len k hk y
     ·rw [if_neg (by omega),nV _ rfl]
      intro i u hu
      rw [kE] at hu
      split at hu
      ·rw [iZ,kE] at hu
       split at hu
       ·rw [iZ] at hu
        have:=xZ _ u hu
        rw [show a0.off+off+(m ()).toNat*k.size+j*k.size+i=a0.off+(off+(((m ()).toNat+j)*k.size+i)) by rw [Nat.add_mul];omega]
        exact this
       ·cases hu
      ·cases hu
    ·cases hy
theorem Og {α:Type} {β:Type 1} {f:α->β} {l:List α} {x:β} (h:l.map f=[x]):∃a,l=[a]/\f a=x:=by
 match l,h with
 | [a],h=>simp at h;exact ⟨a,rfl,h⟩
theorem Fm {α:Type} {β:Type 1} {f:α->β} {l:List α} {x y:β} (h:l.map f=[x,y]):∃a b,l=[a,b]/\f a=x/\f b=y:=by
 match l,h with
 | [a,b],h=>simp at h;exact ⟨a,b,rfl,h.1,h.2⟩
theorem Xy {α:Type} {β:Type 1} {f:α->β} {l:List α} {x y z:β} (h:l.map f=[x,y,z]):∃a b c,l=[a,b,c]/\f a=x/\f b=y/\f c=z:=by
 match l,h with
 | [a,b,c],h=>simp at h;exact ⟨a,b,c,rfl,h.1,h.2.1,h.2.2⟩
def gR (w:World):aV:=λb=>w.heap[b]?
theorem xq (w:World):(gR w).gV w:=λb o h=>h
theorem abF {b o:Nat} {u:Value} (h:w.cell? ⟨b,o,none⟩=some u):oo (gR w) b o=some u:=by
 unfold World.cell? at h
 unfold oo gR
 split at h
 ·rename_i c e fz he
  simp at he
  simp [he] at h ⊢
  exact h
 ·cases h
structure tJ (D:Den f s η H a w) (G:aV):Prop where
 le:H.le G
 own:∀l b,aN s.b l=.live->bS (η l)=some b->G b=w.heap[b]?
theorem tJ.world (D:Den f s η H a w):tJ D (gR w):=⟨D.hw,λ_ _ _ _=>rfl⟩
theorem TM (D:Den f s η H a w) {G:aV} {l:Nat} {T:Type} {e:TypeId} {sz:Nat} {c:T->List SV} {xs:Unit->List T} (hs:s.b[l]?=some (.dyn e sz c xs)) (hle:H.le G) (ny:∀b,bS (η l)=some b->G b=w.heap[b]?) :
  rel η (aN s.b) G (.sl sz c xs) (η l):=by
 obtain ⟨vals,lR,h4,h5,jh⟩:=D.sl l _ hs
 have cJ:aN s.b l=.live:=by rw [bR hs];rfl
 simp only [rel]
 refine ⟨?_,λx=>(jh x).1⟩
 obtain ⟨ad,cp,fV,wL⟩:=lR.slice
 refine ⟨ad,cp,fV,wL,?_⟩
 by_cases hn:xs ()=[]
 ·exact .inl hn
 right
 have kL:0 < (xs ()).length:=by cases hq:xs () with|nil=>exact absurd hq hn|cons=>simp
 have h3:=lR.pos kL
 rcases h3.2 with ⟨hz,AJ⟩|⟨g,oW,cur,hg,_,iU,sd,kQ,fv,pq⟩
 ·omega
 rw [hg] at fV
 simp at fV
 refine ⟨⟨g,0,none⟩,fV.1.symm,rfl,λj x hx=>?_⟩
 have h6:=xo h5 h4 j x hx
 refine ⟨_,?_,cQ.up hle h6,λk u hu=>?_⟩
 ·rw [gZ h6];exact h5 x (cN hx)
 ·rw [kE] at hu
  split at hu
  ·rw [iZ] at hu
   have hG:=ny g (by rw [hg];simp only [bS];rw [if_neg (by omega)])
   have hc:=h3.cells (g:=g) (by rw [hg];rfl) _ u hu
   rw [pk,cell_of_row w g _ cur e (0,0) iU] at hc
   simp only [oo,hG,iU,ni]
   simpa using hc
  ·cases hu
theorem TN {D:Den f s η H a w} {G:aV} (S:tJ D G) {l:Nat} {T:Type} {e:TypeId} {sz:Nat} {c:T->List SV} {xs:Unit->List T} (hs:s.b[l]?=some (.dyn e sz c xs)) :
 rel η (aN s.b) G (.sl sz c xs) (η l):=TM D hs S.le (λb hb=>S.own l b (by rw [bR hs];rfl) hb)
theorem aeR {q:Nat->Live} {G:aV} {T:Type} {sz:Nat} {c:T->List SV} {xs:Unit->List T} {o v:Value} {m n:Nat} (h:rel η q G (.sl sz c xs) o) (hp:BY o sz m n v) :
  rel η q G (.sl sz c λ_=>((xs ()).take n).drop m) v:=by
 simp only [rel] at h ⊢
 obtain ⟨⟨ad,cap,rfl,h2,h3⟩,bY⟩:=h
 refine ⟨?_,bY⟩
 obtain ⟨Pk,nn,c0,h4,h5,h6,kB,c',rfl,h8,h9,_⟩:=hp
 simp at h4
 obtain ⟨rfl,rfl,rfl⟩:=h4
 have hlen:(((xs ()).take n).drop m).length=n - m:=by simp;omega
 refine ⟨kB,c',by rw [hlen],by rw [hlen];exact h8,?_⟩
 by_cases va:m < n
 ·right
  obtain ⟨bl,rfl,rfl⟩:=h9 va
  rcases h3 with h3|⟨a0,CX,fx,jF⟩
  ·rw [h3] at h6;simp at h6;omega
  ·simp at CX;subst CX
   refine ⟨_,rfl,rfl,λj x hx=>?_⟩
   rw [iZ,kE] at hx
   split at hx
   ·obtain ⟨vals,g1,g2,g3⟩:=jF _ x hx
    refine ⟨vals,g1,g2,λk u hu=>?_⟩
    rw [<-g3 k u hu]
    congr 1
    rw [Nat.add_mul];simp only;omega
   ·cases hx
 ·left
  exact gI (by rw [hlen];omega)
theorem adB {D:Den f s η H a w} {G:aV} (S:tJ D G) {l:Nat} {e:TypeId} {cs:List SV} (hs:s.b[l]?=some (.fix e cs)) :
  ∃bl vs,η l=.pointer (some ⟨bl,0,none⟩)/\zB G bl 0 vs/\aK η (aN s.b) H cs vs:=by
 obtain ⟨bl,vs,h3,h4,h5⟩:=D.sl l _ hs
 have hG:=S.own l bl (by rw [bR hs];rfl) (by rw [h3];rfl)
 refine ⟨bl,vs.toList,h3,λj u hu=>?_,h5⟩
 simp only [oo,hG,h4]
 simpa using hu
theorem zH {D:Den f s η H a w} {G:aV} (S:tJ D G):∀(n:Nat) (x:SV) (v:Value),rel η (aN s.b) H x v->rel η (aN s.b) G (gU s.b n x) v
 | 0,x,v,h=>rV (gD.refl _ _) S.le x v h
 | n+1,x,v,h=>by
  have up:∀{y:SV} {v:Value},rel η (aN s.b) H y v->rel η (aN s.b) G y v:=λ{y v} h=>rV (gD.refl _ _) S.le y v h
  have map:∀(cs:List SV) (vs:List Value),aK η (aN s.b) H cs vs->aK η (aN s.b) G (cs.map (gU s.b n)) vs:=by
   intro cs
   induction cs with
   | nil=>intro vs h;simpa [aK] using h
   | cons c r ih =>
    intro vs h
    simp only [aK,gS] at h ⊢
    obtain ⟨u,us,h1,h2,h3⟩:=h
    exact ⟨u,us,h1,zH S n c u h2,ih us h3⟩
  cases x with
  | own l =>
   simp only [gU]
   split
   ·rename_i T e sz c xs hs
    simp only [rel,bR hs,Slot.live] at h
    rw [h.1]
    exact TN S hs
   ·exact up h
  | et l sz m k =>
   simp only [gU]
   split
   ·rename_i T e iV c xs hs
    split
    ·rename_i eF
     obtain rfl:=l6 eF
     simp only [rel,bR hs,Slot.live] at h
     exact aeR (TN S hs) h
    ·exact up h
   ·exact up h
  | ptr l off =>
   simp only [gU]
   split
   ·rename_i e cs hs
    simp only [rel,bR hs,Slot.live] at h
    obtain ⟨bl,h1,h2⟩:=h
    obtain ⟨jJ,vs,h3,h4,h5⟩:=adB S hs
    rw [h1] at h3
    simp at h3;subst h3
    simp only [rel]
    exact ⟨⟨bl,0,none⟩,by rw [h2];simp,vs,map _ _ h5,h4⟩
   ·exact up h
  | fy l =>
   simp only [gU]
   split
   ·rename_i T k c m hs
    simp only [rel,bR hs,Slot.live] at h
    obtain ⟨r,es,clock,h3,h4,hM,bY⟩:=D.sl l _ hs
    have hG:=S.own l r (by rw [bR hs];rfl) (by rw [h3];rfl)
    simp only [rel]
    exact ⟨.inr ⟨r,es,clock,h.1.trans h3,by rw [hG];exact h4,hM.mono λt u hu=>cQ.up S.le hu⟩,bY⟩
   ·exact up h
  | fn f xs ys =>
   simp only [gU]
   simp only [rel] at h ⊢
   obtain ⟨fs,cs,h1,h2,h3⟩:=h
   exact ⟨fs,cs,h1,map _ _ h2,map _ _ h3⟩
  | agg cs =>
   simp only [gU]
   simp only [rel] at h ⊢
   obtain ⟨vs,h1,h2⟩:=h
   exact ⟨vs,h1,map _ _ h2⟩
  | ca cs =>
   simp only [gU]
   simp only [rel] at h ⊢
   obtain ⟨vs,h1,h2⟩:=h
   exact ⟨vs,h1,map _ _ h2⟩
  | _=>simp only [gU];exact up h
mutual
theorem Ln {η η':Nat->Value} {q q':Nat->Live} {H H':aV}:∀(x:SV) (v:Value),x.scalar=true->rel η q H x v->rel η' q' H' x v
 | .bc c,v,_,h=>by simpa [rel] using h
 | .b x,v,_,h=>by simpa [rel] using h
 | .nb d p,v,l,_=>by simp [SV.scalar] at l
 | .ic k n,v,_,h=>by simpa [rel] using h
 | .i k n,v,_,h=>by simpa [rel] using h
 | .str x,v,_,h=>by simpa [rel] using h
 | .agg cs,v,l,h=>by
  simp only [rel,SV.scalar] at h l ⊢
  obtain ⟨vs,h1,h2⟩:=h
  exact ⟨vs,h1,Hl cs vs l h2⟩
 | .ca cs,v,l,h=>by
  simp only [rel,SV.scalar] at h l ⊢
  obtain ⟨vs,h1,h2⟩:=h
  exact ⟨vs,h1,Hl cs vs l h2⟩
 | .any,_,l,_=>by simp [SV.scalar] at l
 | .cell,_,l,_=>by simp [SV.scalar] at l
 | .v x,v,l,_=>by simp [SV.scalar] at l
 | .cH,v,l,_=>by simp [SV.scalar] at l
 | .ptr _ off,v,l,h=>by simp [SV.scalar] at l
 | .fq _ sz i off,v,l,h=>by simp [SV.scalar] at l
 | .own _,v,l,h=>by simp [SV.scalar] at l
 | .et _ _ _ _,v,l,h=>by simp [SV.scalar] at l
 | .dO cs n,v,l,h=>by simp [SV.scalar] at l
 | .sl sz c xs,v,l,h=>by simp [SV.scalar] at l
 | .dg cs off,v,l,h=>by simp [SV.scalar] at l
 | .fn f first cap,v,l,h=>by simp [SV.scalar] at l
 | .lu t x,v,l,h=>by simp [SV.scalar] at l
 | .fA sz c xs,v,l,h=>by simp [SV.scalar] at l
 | .mp k c m,v,l,h=>by simp [SV.scalar] at l
 | .opt p x,v,l,h=>by simp [SV.scalar] at l
 | .fy _,v,l,h=>by simp [SV.scalar] at l
 | .fK _,v,l,h=>by simp [SV.scalar] at l
theorem Hl {η η':Nat->Value} {q q':Nat->Live} {H H':aV}:∀(x:List SV) (v:List Value),xR x=true->aK η q H x v->aK η' q' H' x v
 | [],v,_,h=>by simpa [aK] using h
 | s :: r,v,l,h=>by
  simp only [aK,xR,cu] at h l ⊢
  obtain ⟨x,xs,h1,h2,h3⟩:=h
  exact ⟨x,xs,h1,Ln s x l.1 h2,Hl r xs l.2 h3⟩
end
theorem Rv {fid:FuncId} {fn:Func} (F:kJ P fid fn) (args:Array Value) (w:World):(callFunc fid args).run P w=.ok (.enter fid args) w:=by
 have h:=F.body
 cases hb:fn.body with
 | none=>rw [hb] at h;cases h
 | some c =>
  have hn : ¬ fn.name = "runtime.NumGoroutine" := by simpa using F.name
  simp [callFunc,F.get,hn,hb]
theorem SQ {c:Call} {g:Operand} {fid:FuncId} {fn:Func} (F:kJ P fid fn) (ho:o.op=.call c) (hg:c.callee=.value g) {fs cs:List Value} (hv:a.eval g=.func (.func fid) fs.toArray cs.toArray) (w:World) :
  (execOp a.eval o).run P w=.ok (.enter fid (fs++c.args.toList.map a.eval++cs).toArray) w:=by
 unfold execOp
 simp only [ho,resolve,hg,hv,Deferred.ofValue,Sem.run_bind,Sem.run_pure,Result.andThen_ok,invoke]
 have:(fs.toArray++Array.map a.eval c.args++cs.toArray)=(fs++c.args.toList.map a.eval++cs).toArray:=by
  apply k8
  simp
 rw [this]
 exact Rv F _ w
theorem Hd {w w':World} (h:(gR w).gV w') (h1:w'.os=w.os) (h2:w'.tape=w.tape) (h3:w'.output=w.output):w.grownBy w' none:=by
 refine ⟨h1,h2,h3,?_,λb hb _=>?_⟩
 ·by_cases hs:w.heap.size=0
  ·omega
  ·have:=h (w.heap.size - 1) w.heap[w.heap.size - 1] (by simp [gR])
   have:=(fe.1 this).1
   omega
 ·have:=h b w.heap[b] (by simp [gR,hb])
  rw [this]
  simp [hb]
theorem UE (b:List Slot):∀(n:Nat) (x:SV),x.lb=false->gU b n x=x
 | 0,x,_=>rfl
 | n+1,x,h=>by
  have map:∀(cs:List SV),pz cs=false->cs.map (gU b n)=cs:=by
   intro cs
   induction cs with
   | nil=>intro _;rfl
   | cons c r ih =>
    intro h
    simp only [pz,qQ] at h
    rw [gS,UE b n c h.1,ih h.2]
  cases x<;>simp only [SV.lb] at h<;>first|(cases h;done)|rfl|(simp only [gU];rw [map _ h];done)|(simp only [qQ] at h;simp only [gU];rw [map _ h.1,map _ h.2])
theorem MA (b:List Slot):∀(xs:List SV),pz xs=false->xs.map (view b)=xs
 | [],_=>rfl
 | x :: r,h=>by
  simp only [pz,qQ] at h
  rw [gS,MA b r h.2]
  exact congrArg (· :: r) (UE b 4 x h.1)
mutual
theorem acF {q:Nat->Live}:∀(x:SV) (v:Value),rel η q H x v->rel η q H (jc x) v
 | .ptr ..,v,h=>by simp only [jc];show v.oneCell'=true;exact v7 rfl h
 | .fq ..,v,h=>by simp only [jc];show v.oneCell'=true;exact v7 rfl h
 | .own _,v,h=>by simp only [jc];show v.oneCell'=true;exact v7 rfl h
 | .et ..,v,h=>by simp only [jc];show v.oneCell'=true;exact v7 rfl h
 | .fy _,v,h=>by simp only [jc];show v.oneCell'=true;exact v7 rfl h
 | .fK _,v,h=>by simp only [jc];show v.oneCell'=true;exact v7 rfl h
 | .agg cs,v,h=>by
  simp only [jc,rel] at h ⊢
  obtain ⟨vs,h1,h2⟩:=h
  exact ⟨vs,h1,zi cs vs h2⟩
 | .ca cs,v,h=>by
  simp only [jc,rel] at h ⊢
  obtain ⟨vs,h1,h2⟩:=h
  exact ⟨vs,h1,zi cs vs h2⟩
 | .fn f xs ys,v,h=>by
  simp only [jc,rel] at h ⊢
  obtain ⟨fs,cs,h1,h2,h3⟩:=h
  exact ⟨fs,cs,h1,zi xs fs h2,zi ys cs h3⟩
 | .any,v,h=>by simp only [jc];exact h
 | .cell,v,h=>by simp only [jc];exact h
 | .bc _,v,h=>by simp only [jc];exact h
 | .b _,v,h=>by simp only [jc];exact h
 | .nb _ _,v,h=>by simp only [jc];exact h
 | .ic _ _,v,h=>by simp only [jc];exact h
 | .i _ _,v,h=>by simp only [jc];exact h
 | .str _,v,h=>by simp only [jc];exact h
 | .v _,v,h=>by simp only [jc];exact h
 | .cH,v,h=>by simp only [jc];exact h
 | .dO _ _,v,h=>by simp only [jc];exact h
 | .sl _ _ _,v,h=>by simp only [jc];exact h
 | .fA _ _ _,v,h=>by simp only [jc];exact h
 | .dg _ _,v,h=>by simp only [jc];exact h
 | .lu _ _,v,h=>by simp only [jc];exact h
 | .mp _ _ _,v,h=>by simp only [jc];exact h
 | .opt _ _,v,h=>by simp only [jc];exact h
theorem zi {q:Nat->Live}:∀(x:List SV) (v:List Value),aK η q H x v->aK η q H (uI x) v
 | [],v,h=>h
 | x :: r,v,h=>by
  simp only [uI,aK] at h ⊢
  obtain ⟨u,us,h1,h2,h3⟩:=h
  exact ⟨u,us,h1,acF x u h2,zi r us h3⟩
end
theorem afO (C:X.Ok P) (D:Den f s η H a w) {c:Call} {g:Operand} {fid:FuncId} {first cap:List SV} (ho:o.op=.call c) (hg:c.callee=.value g) (hv:Vc.ev s g=.fn (.func fid) first cap)
  (h:(Cc X s.b fid (first++c.args.toList.map (Vc.ev s)++cap)).K R):eJ P f s o a w R:=by
 have o6:=D.ev g
 rw [hv] at o6
 simp only [rel] at o6
 obtain ⟨fs,cs,h1,h2,h3⟩:=o6
 have lH:aK η (aN s.b) H (first++c.args.toList.map (Vc.ev s)++cap) (fs++c.args.toList.map a.eval++cs):=gC (gC h2 (D.AF _)) h3
 unfold Cc at h
 split at h<;>first|exact h.elim|skip
 rename_i S hS
 have SS:=C.sp _ _ hS
 obtain ⟨fn,F⟩:=SS.fn
 have gq:=SQ F ho hg h1 w
 have fin:∀(α:S.α),S.pre α->R (S.res α) []->∀(Hc:aV),Hc.gV w->cQ Hc (S.args α) (fs++c.args.toList.map a.eval++cs) ->
   (∀H' w' v,Hc.le H'->H'.gV w'->w.grownBy w' none->(∀b,H' b≠none->Hc b≠none\/w.heap.size<=b)->ox H' (S.res α) v->∃η' H2,Den f (s.iz o.dst (S.res α) []) η' H2 (a.put o.dst v) w')->eJ P f s o a w R:=by
  intro α dU hR Hc dq jd nA
  refine ⟨_,[],hR,λK Q hk=>?_⟩
  unfold Oper.wp
  rw [gq]
  refine (SS.run α dU Hc (gR w) w _ dq (xq w) jd).mono λe w' ⟨v,H',he,g1,g2,g3,g4,g5,g6,g7,g8⟩=>?_
  subst he
  have fR:=Hd g3 g6 g7 g8
  obtain ⟨η',H2,D'⟩:=nA H' w' v g1 g2 fR (λb hb=>by
   rcases g4 b hb with h|h
   ·exact .inl h
   ·right
    unfold gR at h
    simpa using h) g5
  exact hk η' H2 w' v D'
 split at h
 ·obtain ⟨α,⟨⟨hle,ri⟩|hle,dU⟩,hR⟩:=h
  case inr =>
   refine fin α dU hR H D.hw (ja _ _ (SS.lf α) (iw hle (zi _ _ lH))) ?_
   intro H' w' v sw dq fR b9 gu
   exact ⟨η,H',(D.share fR sw dq b9).put o.dst (ox.up (aV.le.refl H') gu)⟩
  cases hl:pz (first++c.args.toList.map (Vc.ev s)++cap) with
  | false =>
   rw [MA s.b _ hl] at hle
   refine fin α dU hR H D.hw (ja _ _ (SS.lf α) (iw hle lH)) ?_
   intro H' w' v sw dq fR b9 gu
   exact ⟨η,H',(D.share fR sw dq b9).put o.dst (ox.up (aV.le.refl H') gu)⟩
  | true =>
  have ri:(S.res α).scalar=true\/S.fr=true:=by
   have h2:((S.res α).scalar||(S.fr||!pz (first++c.args.toList.map (Vc.ev s)++cap)))=true:=ri
   rw [hl] at h2
   simpa using h2
  have IP:aK η (aN s.b) (gR w) ((first++c.args.toList.map (Vc.ev s)++cap).map (view s.b)) (fs++c.args.toList.map a.eval++cs):=by
   have:∀(xs:List SV) (vs:List Value),aK η (aN s.b) H xs vs->aK η (aN s.b) (gR w) (xs.map (view s.b)) vs:=by
    intro xs
    induction xs with
    | nil=>intro vs h;simpa [aK] using h
    | cons c r ih =>
     intro vs h
     simp only [aK,gS] at h ⊢
     obtain ⟨u,us,h1,h2,h3⟩:=h
     exact ⟨u,us,h1,zH (tJ.world D) 4 c u h2,ih us h3⟩
   exact this _ _ lH
  rcases ri with ri|oG
  ·refine fin α dU hR (gR w) (xq w) (ja _ _ (SS.lf α) (iw hle IP)) ?_
   intro H' w' v _ _ fR _ gu
   exact ⟨η,H,(D.grown fR).put o.dst (Ln _ _ ri gu)⟩
  ·refine ⟨_,[],hR,λK Q hk=>?_⟩
   unfold Oper.wp
   rw [gq]
   refine (SS.fresh oG α dU (gR w) (gR w) w _ (xq w) (xq w) (ja _ _ (SS.lf α) (iw hle IP))).mono λe w' ⟨v,N,he,g1,g2,g3,g4,g5,g6,g7,g8⟩=>?_
   subst he
   have fR:=Hd g1 g6 g7 g8
   let G:aV:=λb=>match H b with
    | some o=>some o
    | none=>N b
   have aiF:H.le G:=λb o hb=>by simp only [G];rw [hb]
   have dq:G.gV w':=λb o hb=>by
    simp only [G] at hb
    split at hb
    ·rename_i o' ho;simp at hb;subst hb;exact g1 b _ (D.hw b _ ho)
    ·exact g3 b o hb
   have b9:∀b,G b≠none->H b≠none\/w.heap.size<=b:=λb hb=>by
    cases hq:H b with
    | some o=>exact .inl (by simp)
    | none =>
     right
     have:=(g4 b (by simpa only [G,hq] using hb)).1
     unfold gR at this
     simpa using this
   have Pr:N.le G:=λb o hb=>by
    have hn:=(g4 b (by rw [hb];simp)).1
    have:H b=none:=by
     cases hq:H b with
     | none=>rfl
     | some o'=>have:=D.hw b o' hq;unfold gR at hn;rw [this] at hn;cases hn
    simp only [G,this];exact hb
   exact hk η G w' v ((D.share fR aiF dq b9).put o.dst (ox.up Pr g5))
 ·obtain ⟨α,⟨hle,dU⟩,hR⟩:=h
  refine fin α dU hR H D.hw (ja _ _ (SS.lf α) (iw hle lH)) ?_
  intro H' w' v sw dq fR b9 gu
  exact ⟨η,H',(D.share fR sw dq b9).put o.dst (ox.up (aV.le.refl H') gu)⟩
theorem ES (D:Den f s η H a w) {v:Value} {x:SV} (hr:∀w,(execOp a.eval o).run P w=.ok (.value v) w) (hx:rel η (aN s.b) H x v) (h:R x []):eJ P f s o a w R:=dH D hr hx h
theorem Mh (C:X.Ok P) (D:Den f s η H a w) {l:Nat} (hl:fl o.op=true->s.b[l]?=some .un) (hd:qa o.op=true->o.dst=none)
  (h:(dN X s l o.op).K R):eJ P f s o a w R:=by
 cases ho:o.op with
 | move x=>rw [ho] at h;exact Vx D x (.inl ho) h
 | assign x=>rw [ho] at h;exact Vx D x (.inr ho) h
 | pick c x y=>rw [ho] at h;exact afJ D c x y ho h
 | alloc e =>
  rw [ho] at h hl
  simp only [dN] at h
  split at h
  ·rename_i i hi;exact aeJ C D (hl rfl) e ho hi h
  ·exact h.elim
 | box e x =>
  rw [ho] at h hl
  simp only [dN] at h
  split at h
  ·rename_i i cs hi hc;exact ahd C D (hl rfl) e x ho hc h
  ·exact h.elim
 | build t ps=>rw [ho] at h;exact aeK C D t ps ho h
 | buildSlice t n ps=>rw [ho] at h hl;exact abq C D (hl rfl) t n ps ho h
 | load t x=>rw [ho] at h;exact afL C D t x ho h
 | store t x y=>rw [ho] at h;exact aeG C D t x y ho (hd (by rw [ho];rfl)) h
 | nilCheck x =>
  rw [ho] at h
  simp only [dN] at h
  have hx:=D.ev x
  split at h<;>first|exact h.elim|skip
  ·rename_i l off e
   rw [e] at hx
   have:∃ad,a.eval x=.pointer (some ad):=by
    simp only [rel] at hx
    split at hx
    ·exact hx.elim
    ·exact hx
    ·obtain ⟨bl,_,h⟩:=hx;exact ⟨_,h⟩
   obtain ⟨ad,hp⟩:=this
   exact ES D (v:=a.eval x) (λw=>by simp [execOp,ho,hp]) hx h
  ·rename_i cs off e
   rw [e] at hx
   have:∃ad,a.eval x=.pointer (some ad):=by
    simp only [rel] at hx
    obtain ⟨ad,h,_⟩:=hx;exact ⟨_,h⟩
   obtain ⟨ad,hp⟩:=this
   exact ES D (v:=a.eval x) (λw=>by simp [execOp,ho,hp]) hx h
  ·rename_i fid fs cs e
   rw [e] at hx
   have:∃g1 g2,a.eval x=.func (.func fid) g1 g2:=by
    simp only [rel] at hx
    obtain ⟨g1,g2,h,_⟩:=hx;exact ⟨_,_,h⟩
   obtain ⟨g1,g2,hp⟩:=this
   exact ES D (v:=a.eval x) (λw=>by simp [execOp,ho,hp]) hx h
 | binOp op t x y t'=>rw [ho] at h;exact aha C D op t t' x y ho h
 | unOp op t x=>rw [ho] at h;exact aiw D op t x ho h
 | convert src dst x=>rw [ho] at h;exact afK C D src dst x ho h
 | makeFunc fn first cap =>
  rw [ho] at h
  refine ES D (v:=.func fn (first.map a.eval) (cap.map a.eval)) (λw=>by simp [execOp,ho,Instr.makeFunc]) ?_ h
  simp only [rel]
  refine ⟨first.toList.map a.eval,cap.toList.map a.eval,?_,D.AF _,D.AF _⟩
  congr 1<;>(apply k8;simp)
 | makeSlice t n m=>rw [ho] at h hl;exact abE C D (hl rfl) t n m ho h
 | slice t x lo hi mx =>
  rw [ho] at h hl
  exact aeQ C D t x lo hi mx (λhm=>hl (by cases mx<;>simp [fl] at hm ⊢)) ho h
 | fieldAddr t x j=>rw [ho] at h;exact abC C D t x j ho h
 | field t x j=>rw [ho] at h;exact aeI C D t x j ho h
 | indexAddr t x ix=>rw [ho] at h;exact abD C D t x ix ho h
 | index t x ix=>rw [ho] at h;exact aeH C D t x ix ho h
 | makeMap t r =>
  rw [ho] at h hl
  cases r with
  | none=>exact acD C D (hl rfl) t ho h
  | some r=>exact h.elim
 | lookup t x ix ok=>rw [ho] at h;exact adz C D t x ix ok ho h
 | mapUpdate t x ix y=>rw [ho] at h;exact RN C D t x ix y (.inl ho) (hd (by rw [ho];rfl)) h
 | insert t x ix y=>rw [ho] at h;exact RN C D t x ix y (.inr ho) (hd (by rw [ho];rfl)) h
 | range t x=>rw [ho] at h hl;exact aeN C D (hl rfl) t x ho h
 | entry x=>rw [ho] at h;exact aeO D x ho h
 | extract x j =>
  rw [ho] at h
  simp only [dN] at h
  have hx:=D.ev x
  split at h<;>first|exact h.elim|skip
  rename_i cs e
  split at h<;>first|exact h.elim|skip
  rename_i v hv
  rw [e] at hx
  simp only [rel] at hx
  obtain ⟨vs,h1,h2⟩:=hx
  obtain ⟨u,h3,h4⟩:=rW h2 j v hv
  exact ES D (v:=u) (λw=>by simp [execOp,ho,h1,Instr.extract,h3]) h4 h
 | call c =>
  rw [ho] at h hl
  simp only [dN] at h
  split at h<;>first|exact h.elim|skip
  ·rename_i g hg
   split at h<;>first|exact h.elim|skip
   rename_i fid first cap hv
   exact afO C D ho hg hv h
  ·rename_i bi hg
   obtain ⟨callee,args,argTypes⟩:=c
   simp only at hg h
   subst hg
   unfold xJ at h
   split at h<;>first|exact h.elim|skip
   ·split at h<;>first|exact h.elim|skip
    rename_i t x e1 e2
    obtain ⟨x0,e3,rfl⟩:=Og e2
    have tU:argTypes=#[t]:=by apply k8;simpa using e1
    have kS:args=#[x0]:=by apply k8;simpa using e3
    subst tU;subst kS
    exact ahe C D t x0 ho h
   ·split at h<;>first|exact h.elim|skip
    rename_i t t' x y e1 e2
    split at h
    ·rename_i ht
     subst ht
     obtain ⟨x0,y0,e3,rfl,rfl⟩:=Fm e2
     have tU:argTypes=#[t,t]:=by apply k8;simpa using e1
     have kS:args=#[x0,y0]:=by apply k8;simpa using e3
     subst tU;subst kS
     exact adw C D (hl rfl) t x0 y0 ho h
    ·obtain ⟨x0,y0,e3,rfl,rfl⟩:=Fm e2
     have tU:argTypes=#[t,t']:=by apply k8;simpa using e1
     have kS:args=#[x0,y0]:=by apply k8;simpa using e3
     subst tU;subst kS
     exact acE C D (hl rfl) t t' x0 y0 ho h
   ·split at h<;>first|exact h.elim|skip
    rename_i t t' x y e1 e2
    split at h<;>first|exact h.elim|skip
    rename_i ht
    subst ht
    obtain ⟨x0,y0,e3,rfl,rfl⟩:=Fm e2
    have tU:argTypes=#[t,t]:=by apply k8;simpa using e1
    have kS:args=#[x0,y0]:=by apply k8;simpa using e3
    subst tU;subst kS
    exact afM C D t x0 y0 ho h
   ·split at h<;>first|exact h.elim|skip
    rename_i t x e1 e2
    obtain ⟨x0,e3,rfl⟩:=Og e2
    have tU:argTypes=#[t]:=by apply k8;simpa using e1
    have kS:args=#[x0]:=by apply k8;simpa using e3
    subst tU;subst kS
    exact aeP C D t x0 ho h
   ·split at h<;>first|exact h.elim|skip
    rename_i x y e2
    obtain ⟨x0,y0,e3,rfl,rfl⟩:=Fm e2
    have kS:args=#[x0,y0]:=by apply k8;simpa using e3
    subst kS
    exact Xv D .min min argTypes x0 y0 (.inl ⟨rfl,rfl⟩) ho h
    rename_i x y z e2
    obtain ⟨x0,y0,z0,e3,rfl,rfl,rfl⟩:=Xy e2
    have kS:args=#[x0,y0,z0]:=by apply k8;simpa using e3
    subst kS
    exact Wx D .min min argTypes x0 y0 z0 (.inl ⟨rfl,rfl⟩) ho h
   ·split at h<;>first|exact h.elim|skip
    rename_i x y e2
    obtain ⟨x0,y0,e3,rfl,rfl⟩:=Fm e2
    have kS:args=#[x0,y0]:=by apply k8;simpa using e3
    subst kS
    exact Xv D .max max argTypes x0 y0 (.inr ⟨rfl,rfl⟩) ho h
    rename_i x y z e2
    obtain ⟨x0,y0,z0,e3,rfl,rfl,rfl⟩:=Xy e2
    have kS:args=#[x0,y0,z0]:=by apply k8;simpa using e3
    subst kS
    exact Wx D .max max argTypes x0 y0 z0 (.inr ⟨rfl,rfl⟩) ho h
   ·split at h<;>first|exact h.elim|skip
    rename_i t x e1 e2
    obtain ⟨x0,e3,rfl⟩:=Og e2
    have tU:argTypes=#[t]:=by apply k8;simpa using e1
    have kS:args=#[x0]:=by apply k8;simpa using e3
    subst tU;subst kS
    exact ahf C D t x0 ho h
 | _=>rw [ho] at h;exact h.elim
end
def dR.out:dR->SV->List (Nat × Slot)->Prop
 | .fail,_,_=>False
 | .pure x u,y,v=>y=x/\v=u
 | .kK p x u,y,v=>p ()/\y=x/\v=u
 | .ex T p x u,y,v=>∃t,p t/\y=x t/\v=u t
theorem dR.IQ (A:dR) (R:SV->List (Nat × Slot)->Prop):A.K R↔∃x u,A.out x u/\R x u:=by
 cases A with
 | fail=>simp [dR.K,dR.out]
 | pure x u=>simp only [dR.K,dR.out];exact ⟨λh=>⟨_,_,⟨rfl,rfl⟩,h⟩,λ⟨_,_,⟨h1,h2⟩,h⟩=>by subst h1;subst h2;exact h⟩
 | kK p x u=>simp only [dR.K,dR.out];exact ⟨λh=>⟨_,_,⟨h.1.out,rfl,rfl⟩,h.2⟩,λ⟨_,_,⟨h0,h1,h2⟩,h⟩=>by subst h1;subst h2;exact ⟨⟨h0⟩,h⟩⟩
 | ex T p x u=>simp only [dR.K,dR.out];exact ⟨λ⟨t,h⟩=>⟨_,_,⟨t,h.1.out,rfl,rfl⟩,h.2⟩,λ⟨_,_,⟨t,h0,h1,h2⟩,h⟩=>by subst h1;subst h2;exact ⟨t,⟨h0⟩,h⟩⟩
def tK (ops:List Oper) (o:Oper):Option (Option Tmp × Bool) :=
 match o.guard with
 | none=>none
 | some (j,want)=>some ((ops[j]?).bind (·.dst),want)
def ky:SV->Option SV
 | .bc c=>some (.bc c)
 | .b x=>some (.bc (x ()))
 | .ca []=>some (.ca [])
 | _=>none
def kG (want:Bool):SV->Bool
 | .bc c=>c == want
 | _=>false
def F4 (X:Ctx) (o:Oper) (l:Nat) (s s':St):Prop:=∃x u,(dN X s l o.op).out x u/\s'=s.iz o.dst x u
def Out (X:Ctx) (ops:List Oper) (o:Oper) (l:Nat) (s s':St):Prop :=
 match tK ops o with
 | none=>F4 X o l s s'
 | some (none,_)=>False
 | some (some g,want)=>∃y v,s.t[g]?=some y/\ky y=some v /\
  match kG want v with
  | true=>F4 X o l { s with t:=s.t.set g v } s'
  | false=>s'=({ s with t:=s.t.set g v }:St).iz o.dst (.ca []) []
def uV (X:Ctx) (o:Oper) (l:Nat) (s:St) (k:St->Prop):Prop:=(dN X s l o.op).K λx u=>k (s.iz o.dst x u)
def qe (o:Oper) (s:St) (k:St->Prop):Prop:=k (s.iz o.dst (.ca []) [])
def IS (X:Ctx) (ops:List Oper) (o:Oper) (l:Nat) (s:St) (k:St->Prop):Prop :=
 match tK ops o with
 | none=>uV X o l s k
 | some (none,_)=>False
 | some (some g,want)=>match s.t[g]? with
  | some (.bc c)=>match c,want with
   | true,true=>uV X o l s k
   | false,false=>uV X o l s k
   | _,_=>qe o s k
  | some (.b x)=>match want with
   | true=>(wE x->uV X o l { s with t:=s.t.set g (.bc true) } k)/\(wF x->qe o { s with t:=s.t.set g (.bc false) } k)
   | false=>(wE x->qe o { s with t:=s.t.set g (.bc true) } k)/\(wF x->uV X o l { s with t:=s.t.set g (.bc false) } k)
  | some (.ca [])=>qe o s k
  | _=>False
theorem xK (X:Ctx) (o:Oper) (l:Nat) (s:St) (k:St->Prop):uV X o l s k↔∃s',F4 X o l s s'/\k s':=by
 unfold uV F4
 rw [dR.IQ]
 exact ⟨λ⟨x,u,h1,h2⟩=>⟨_,⟨x,u,h1,rfl⟩,h2⟩,λ⟨_,⟨x,u,h1,e⟩,h2⟩=>by subst e;exact ⟨x,u,h1,h2⟩⟩
theorem HX {α:Type 1} (l:List α) (i:Nat) (x:α) (h:l[i]?=some x):l.set i x=l:=by
 apply nh
 intro j
 rw [iN]
 split
 ·rename_i e;subst e
  have:=(bh.1 h).1
  rw [if_pos this,h]
 ·rfl
theorem SR (X:Ctx) (ops:List Oper) (o:Oper) (l:Nat) (s:St) (k:St->Prop):IS X ops o l s k↔∃s',Out X ops o l s s'/\k s':=by
 unfold IS Out
 split
 ·exact xK X o l s k
 ·simp
 ·rename_i g want hg
  split
  ·rename_i c hc
   have hs:({ s with t:=s.t.set g (.bc c) }:St)=s:=by rw [HX _ _ _ hc]
   split
   ·rw [xK]
    exact ⟨λ⟨s',h1,h2⟩=>⟨s',⟨_,_,hc,rfl,by simpa [kG,hs] using h1⟩,h2⟩,λ⟨s',⟨y,v,e1,e2,h1⟩,h2⟩=>by
     rw [hc] at e1;simp at e1;subst e1;simp [ky] at e2;subst e2;exact ⟨s',by simpa [kG,hs] using h1,h2⟩⟩
   ·rw [xK]
    exact ⟨λ⟨s',h1,h2⟩=>⟨s',⟨_,_,hc,rfl,by simpa [kG,hs] using h1⟩,h2⟩,λ⟨s',⟨y,v,e1,e2,h1⟩,h2⟩=>by
     rw [hc] at e1;simp at e1;subst e1;simp [ky] at e2;subst e2;exact ⟨s',by simpa [kG,hs] using h1,h2⟩⟩
   ·rename_i n1 n2
    have hw:kG want (.bc c)=false:=by cases c<;>cases want<;>simp_all [kG]
    unfold qe
    exact ⟨λh=>⟨_,⟨_,_,hc,rfl,by rw [hw,hs]⟩,h⟩,λ⟨s',⟨y,v,e1,e2,h1⟩,h2⟩=>by
     rw [hc] at e1;simp at e1;subst e1;simp [ky] at e2;subst e2;rw [hw,hs] at h1;simp only at h1;subst h1;exact h2⟩
  ·rename_i x hx
   have key:∀(A B:St->Prop),(((wE x->A { s with t:=s.t.set g (.bc true) })/\(wF x->B { s with t:=s.t.set g (.bc false) })) ↔
     (if x () then A { s with t:=s.t.set g (.bc (x ())) } else B { s with t:=s.t.set g (.bc (x ())) })):=by
    intro A B
    cases h:x ()
    ·simp only [ng,if_false]
     exact ⟨λhh=>hh.2 ⟨h⟩,λhh=>⟨λt=>(by have:=t.out;rw [h] at this;cases this),λ_=>hh⟩⟩
    ·simp only [if_true]
     exact ⟨λhh=>hh.1 ⟨h⟩,λhh=>⟨λ_=>hh,λt=>(by have:=t.out;rw [h] at this;cases this)⟩⟩
   have CY:∀(Z:SV->Prop),(∃y v,s.t[g]?=some y/\ky y=some v/\Z v)↔Z (.bc (x ())):=by
    intro Z
    exact ⟨λ⟨y,v,e1,e2,h⟩=>by rw [hx] at e1;simp at e1;subst e1;simp [ky] at e2;subst e2;exact h,λh=>⟨_,_,hx,rfl,h⟩⟩
   split
   ·rw [key (λs=>uV X o l s k) (λs=>qe o s k)]
    constructor
    ·intro h
     cases hb:x ()
     ·rw [hb] at h;simp only [ng,if_false] at h
      exact ⟨_,(CY _).2 (by rw [hb];simp [kG]),h⟩
     ·rw [hb] at h;simp only [if_true] at h
      obtain ⟨s',h1,h2⟩:=(xK X o l _ k).1 h
      exact ⟨s',(CY _).2 (by rw [hb];simpa [kG] using h1),h2⟩
    ·rintro ⟨s',h1,h2⟩
     have h1:=(CY _).1 h1
     cases hb:x ()
     ·rw [hb] at h1;simp [kG] at h1;subst h1
      simpa only [ng,if_false,qe] using h2
     ·rw [hb] at h1;simp [kG] at h1
      simp only [if_true]
      exact (xK X o l _ k).2 ⟨s',h1,h2⟩
   ·rw [key (λs=>qe o s k) (λs=>uV X o l s k)]
    constructor
    ·intro h
     cases hb:x ()
     ·rw [hb] at h;simp only [ng,if_false] at h
      obtain ⟨s',h1,h2⟩:=(xK X o l _ k).1 h
      exact ⟨s',(CY _).2 (by rw [hb];simpa [kG] using h1),h2⟩
     ·rw [hb] at h;simp only [if_true] at h
      exact ⟨_,(CY _).2 (by rw [hb];simp [kG]),h⟩
    ·rintro ⟨s',h1,h2⟩
     have h1:=(CY _).1 h1
     cases hb:x ()
     ·rw [hb] at h1;simp [kG] at h1
      simp only [ng,if_false]
      exact (xK X o l _ k).2 ⟨s',h1,h2⟩
     ·rw [hb] at h1;simp [kG] at h1;subst h1
      simpa only [if_true,qe] using h2
  ·rename_i hx
   have hs:({ s with t:=s.t.set g (.ca []) }:St)=s:=by rw [HX _ _ _ hx]
   unfold qe
   exact ⟨λh=>⟨_,⟨_,_,hx,rfl,by rw [hs];simp [kG]⟩,h⟩,λ⟨s',⟨y,v,e1,e2,h1⟩,h2⟩=>by
     rw [hx] at e1;simp at e1;subst e1;simp [ky] at e2;subst e2;rw [hs] at h1;simp [kG] at h1;subst h1;exact h2⟩
  ·rename_i n1 n2 n3
   refine ⟨λh=>h.elim,λ⟨s',⟨y,v,e1,e2,_⟩,_⟩=>?_⟩
   unfold ky at e2
   split at e2
   ·exact n1 _ e1
   ·exact n2 _ e1
   ·exact n3 e1
   ·cases e2
section
variable {P:Program} {X:Ctx} {f:Fr} {s:St} {η:Nat->Value} {H:aV} {a:Act} {w:World} {o:Oper}
theorem Den.Vz (D:Den f s η H a w) {g:Tmp} {d:Bool} {p:Unit->Prop} (hy:s.t[g]?=some (.nb d p)):∃c,a.tmps.getD g undef=.bool c/\(c=d->p ()):=by
 have hr:=D.zG g
 rw [hy] at hr
 simpa only [rT,rel] using hr
theorem Den.VA (D:Den f s η H a w) {g:Tmp} {y v:SV} (hy:s.t[g]?=some y) (qp:rel η (aN s.b) H v (a.tmps.getD g undef)) :
  Den f { s with t:=s.t.set g v } η H a w:=by
 refine { D with t:=?_ }
 obtain ⟨u,h1,h2⟩:=rW D.t g y hy
 have h3:=vU D.t g (x:=v) (u:=u) (by
  have:a.tmps.getD g undef=u:=by
   have h3:a.tmps[g]?=some u:=by simpa using h1
   simp [Ep,h3]
  rw [this] at qp
  exact qp)
 have h4:a.tmps.toList.set g u=a.tmps.toList:=by
  apply nh
  intro j
  rw [iN]
  split
  ·rename_i e;subst e
   have:=(bh.1 h1).1
   rw [if_pos this,h1]
  ·rfl
 rwa [h4] at h3
theorem Den.guard (D:Den f s η H a w) {g:Tmp} {y v:SV} (hy:s.t[g]?=some y) (hv:ky y=some v) :
  Den f { s with t:=s.t.set g v } η H a w/\rel η (aN s.b) H v (a.tmps.getD g undef):=by
 have hr:=D.zG g
 rw [hy] at hr
 simp only [rT] at hr
 have qp:rel η (aN s.b) H v (a.tmps.getD g undef):=by
  unfold ky at hv
  split at hv
  ·simp at hv;subst hv;exact hr
  ·simp at hv;subst hv;simpa only [rel] using hr
  ·simp at hv;subst hv;exact hr
  ·cases hv
 refine ⟨{ D with t:=?_ },qp⟩
 obtain ⟨u,h1,h2⟩:=rW D.t g y hy
 have h3:=vU D.t g (x:=v) (u:=u) (by
  have:a.tmps.getD g undef=u:=by
   have h3:a.tmps[g]?=some u:=by simpa using h1
   simp [Ep,h3]
  rw [this] at qp
  exact qp)
 have h4:a.tmps.toList.set g u=a.tmps.toList:=by
  apply nh
  intro j
  rw [iN]
  split
  ·rename_i e;subst e
   have:=(bh.1 h1).1
   rw [if_pos this,h1]
  ·rfl
 rw [h4] at h3
 exact h3
theorem TO (D:Den f s η H a w) {g:Tmp} {y:SV} (hy:s.t[g]?=some y):a.tmps[g]?=some (a.tmps.getD g undef):=by
 obtain ⟨u,h1,h2⟩:=rW D.t g y hy
 have h3:a.tmps[g]?=some u:=by simpa using h1
 simp [Ep,h3]
def MW (o:Oper) (l:Nat) (s:St):Prop:=fl o.op=true->s.b[l]?=some .un
def BU (o:Oper):Prop:=qa o.op=true->o.dst=none
theorem Ei (C:X.Ok P) (D:Den f s η H a w) {ops:Array Oper} {i:Nat} (hi:ops[i]?=some o) {l:Nat} (hl:MW o l s) (hs:BU o) {s':St} (h:Out X ops.toList o l s s')
  {Q:Exit->Act->World->Prop} {K:Act->World->Prop} (hK:∀η' H' a' w',Den f s' η' H' a' w'->K a' w'):wpOp P ops Q i K a w:=by
 have YR:∀{s0:St},Den f s0 η H a w->s0.b=s.b->F4 X o l s0 s'->o.wp P a w K Q:=by
  intro s0 D0 hb ⟨x,u,ho,e⟩
  have:=Mh (R:=λx' u'=>x'=x/\u'=u) C D0 (l:=l) (λha=>by rw [hb];exact hl ha) hs ((dR.IQ _ _).2 ⟨x,u,ho,rfl,rfl⟩)
  obtain ⟨x',u',⟨rfl,rfl⟩,F5⟩:=this
  exact F5 K Q λη' H' w' v D'=>hK η' H' _ w' (by rw [e];exact D')
 have ahi:∀{j:Nat} {want:Bool},o.guard=some (j,want)->Region.wanted o (yielded ops a.tmps)=(yielded ops a.tmps j == some want):=λhg=>by simp [Region.wanted,hg]
 unfold wpOp
 rw [hi]
 simp only
 unfold Out tK at h
 split at h
 ·rename_i hg
  have FY:o.guard=none:=by
   cases hq:o.guard with
   | none=>rfl
   | some p=>rw [hq] at hg;cases hg
  rw [if_pos (by simp [Region.wanted,FY])]
  exact .inl (YR D rfl h)
 ·exact h.elim
 ·rename_i g want hg
  obtain ⟨y,v,hy,hv,h⟩:=h
  cases hq:o.guard with
  | none=>rw [hq] at hg;cases hg
  | some p =>
   obtain ⟨j,NN⟩:=p
   rw [hq] at hg
   simp at hg
   obtain ⟨AK,rfl⟩:=hg
   obtain ⟨D0,hr⟩:=D.guard hy hv
   have lV:yielded ops a.tmps j=match a.tmps.getD g undef with|.bool b=>some b|_=>none:=by
    have kP:(ops[j]?).bind (·.dst)=some g:=by simpa using AK
    unfold yielded
    rw [kP]
    simp only [Option.bind_some,TO D hy]
    cases a.tmps.getD g undef<;>rfl
   rw [ahi hq,lV]
   have wR:(∃c,v=.bc c)\/v=.ca []:=by
    unfold ky at hv
    split at hv<;>simp at hv
    ·exact .inl ⟨_,hv.symm⟩
    ·exact .inl ⟨_,hv.symm⟩
    ·exact .inr hv.symm
   rcases wR with ⟨c,rfl⟩|rfl
   ·simp only [rel] at hr
    rw [hr]
    simp only
    by_cases hc:c=NN
    ·subst hc
     simp only [kG,beq_self_eq_true] at h
     simp only [beq_self_eq_true,if_true]
     exact .inl (YR D0 rfl h)
    ·have h1:(c == NN)=false:=by simpa using hc
     have h2:(some c == some NN)=false:=by simpa using hc
     rw [if_neg (by rw [h2];simp)]
     simp only [kG,h1] at h
     refine hK η H _ w ?_
     rw [h]
     exact Den.put D0 o.dst (by simp only [rel];exact ⟨[],rfl,by simp [aK]⟩)
   ·have hnb:∀b,a.tmps.getD g undef≠.bool b:=by
     intro b hb
     simp only [rel] at hr
     obtain ⟨vs,h1,_⟩:=hr
     rw [hb] at h1;cases h1
    rw [if_neg (by
     cases hq2:a.tmps.getD g undef with
     | bool b=>exact absurd hq2 (hnb b)
     | _=>simp)]
    simp only [kG] at h
    refine hK η H _ w ?_
    rw [h]
    exact Den.put D0 o.dst (by simp only [rel];exact ⟨[],rfl,by simp [aK]⟩)
theorem adC {K:Act->World->Prop} (h:o.wp P a w K λ_ _ _=>False):∃a' w',K a' w':=by
 unfold Oper.wp at h
 generalize (execOp a.eval o).run P w=r at h
 cases r with
 | ok n w' =>
  cases n<;>simp only [Oper.upon] at h
  case value v=>exact ⟨_,_,h⟩
  case skip=>exact ⟨_,_,h⟩
  case defer d=>exact ⟨_,_,h⟩
  case enter g args =>
   obtain ⟨e,w',fr,hR,_⟩:=h []
   cases e with
   | returned v=>exact ⟨_,_,hR⟩
   | panicked c=>exact hR.elim
   | outgrown=>obtain ⟨_,_,h⟩:=hR;exact h.elim
  case row row args =>
   obtain ⟨v,w',hR,_⟩:=h default []
   exact ⟨_,_,hR⟩
 | halt x w'=>cases x<;>simp only [Oper.upon] at h
def Good (f:Fr) (s:St):Prop:=∃η H a w,Den f s η H a w
theorem Good.out (C:X.Ok P) (G:Good f s) {ops:Array Oper} {i:Nat} (hi:ops[i]?=some o) {l:Nat} (hl:MW o l s) (hs:BU o) {s':St} (h:Out X ops.toList o l s s'):Good f s':=by
 obtain ⟨η,H,a,w,D⟩:=G
 have:=Ei C D hi hl hs h (Q:=λ_ _ _=>False) (K:=λ_ _=>Good f s') (λη' H' a' w' D'=>⟨η',H',a',w',D'⟩)
 unfold wpOp at this
 rw [hi] at this
 simp only at this
 split at this
 ·rcases this with this|⟨_,_,_,h⟩
  ·obtain ⟨_,_,h⟩:=adC this;exact h
  ·exact h.elim
 ·exact this
end
end Go.Vc
