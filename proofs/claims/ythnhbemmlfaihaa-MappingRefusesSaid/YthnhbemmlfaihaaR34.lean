import Derived.Test.YthnhbemmlfaihaaR13
import Derived.Test.YthnhbemmlfaihaaR29
import Derived.Test.YthnhbemmlfaihaaR32
import Derived.Test.YthnhbemmlfaihaaR33
set_option linter.unusedVariables false
set_option linter.unusedSimpArgs false
set_option maxRecDepth 10000
set_option maxHeartbeats 64000000
namespace Go.Proofs.Pk
open Go Go.Vc
theorem xT {T U:Type} {η:Nat->Value} {q:Nat->Live} {H:aV} {sz:Nat} {c:T->List SV} {c':U->List SV} (f:T->U) (hc:∀x,c' (f x)=c x) (hl:∀x,bX (c' x)) {l:List T} {v:Value} (h:rel η q H (.sl sz c (λ_=>l)) v):rel η q H (.sl sz c' (λ_=>l.map f)) v:=by
 simp only [rel] at h ⊢
 obtain ⟨⟨ad,cap,h1,h2,h3⟩,_⟩:=h
 refine ⟨⟨ad,cap,by rw [kF];exact h1,by rw [kF];exact h2,?_⟩,hl⟩
 rcases h3 with h3|⟨a,e1,e2,h4⟩
 ·exact .inl (by rw [h3];rfl)
 ·refine .inr ⟨a,e1,e2,λj x hx=>?_⟩
  rw [k7,Et] at hx
  obtain ⟨y,hy,rfl⟩:=hx
  rw [hc];exact h4 j y hy
theorem adr {f:FuncId} {S T:Vc.Spec} (I:dw (PP ()) f S) (c:T.α->S.α) (bY:∀a,bX (T.args a)) (hp:∀a,T.pre a->S.pre (c a)) (hr:∀a,S.res a=.b λ_=>true) (ht:∀a,T.res a=.bc true) (hf:T.fr=false)
  (ha:∀(a:T.α) (η:Nat->Value) (q:Nat->Live) (H:aV) (vals:List Value),aK η q H (T.args a) vals->aK η q H (S.args (c a)) vals):dw (PP ()) f T where
 fn:=I.fn
 lf:=bY
 lr:=λa=>by rw [ht];trivial
 fresh:=λh=>by rw [hf] at h;cases h
 run:=λa dU H F w vals h1 h2 h3=>(I.run (c a) (hp a dU) H F w vals h1 h2 (ha a _ _ _ _ h3)).mono (by
  rintro e w' ⟨v,H',g1,g2,g3,g4,g5,g6,g7⟩
  rw [hr] at g6
  rw [ht]
  exact ⟨v,H',g1,g2,g3,g4,g5,by simpa only [rel] using g6,g7⟩)
abbrev U5:Ty:=ou (.int .u8) 5
abbrev U4:Ty:=ou (.int .u8) 4
structure A9 where
 w:List Int
 g:List U5.nH
 o:List U4.nH
structure Xn (x:A9):Prop where
 w:∀b∈x.w,IntKind.u8.min<=b/\b<=IntKind.u8.max
 g:∀b∈x.g,U5.wf b
 o:∀b∈x.o,U4.wf b
def YA (x:U5.nH):B5:=⟨x.1,x.2.1,x.2.2.1,x.2.2.2.1,x.2.2.2.2.1⟩
def YB (x:U4.nH):B4:=⟨x.1,x.2.1,x.2.2.1,x.2.2.2.1⟩
def FR (x:A9):JM:=⟨x.w,x.g.map YA,x.o.map YB⟩
def Pb (x:A9):List SV:=[.sl 1 sR (λ_=>x.w),.sl 5 U5.cells (λ_=>x.g),.sl 4 U4.cells (λ_=>x.o)]
theorem ra {b:Int} (h:IntKind.u8.min<=b/\b<=IntKind.u8.max):byte b:=by
 simp [IntKind.min,IntKind.max,IntKind.bits,IntKind.signed] at h
 exact ⟨h.1,by omega⟩
theorem afH {x:A9} (h:Xn x):Ff (FR x):=⟨λb hb=>ra (h.w b hb),λb hb=>by
 obtain ⟨y,hy,rfl⟩:=jW.1 hb
 have k:=h.g y hy
 exact ⟨ra k.1,ra k.2.1,ra k.2.2.1,ra k.2.2.2.1,ra k.2.2.2.2.1⟩,λb hb=>by
 obtain ⟨y,hy,rfl⟩:=jW.1 hb
 have k:=h.o y hy
 exact ⟨ra k.1,ra k.2.1,ra k.2.2.1,ra k.2.2.2.1⟩⟩
theorem aeC {x:A9} {η:Nat->Value} {q:Nat->Live} {H:aV} {vs:List Value} (h:aK η q H (Pb x) vs):aK η q H [.sl 1 sR (λ_=>(FR x).w),.sl 5 vq (λ_=>(FR x).g),.sl 4 vr (λ_=>(FR x).o)] vs:=by
 unfold Pb at h
 simp only [aK] at h ⊢
 obtain ⟨v1,r1,rfl,h1,v2,r2,rfl,h2,v3,r3,rfl,h3,rfl⟩:=h
 exact ⟨v1,_,rfl,h1,v2,_,rfl,xT YA (λx=>rfl) (λx=>(IE x).1) h2,v3,_,rfl,xT YB (λx=>rfl) (λx=>(IF x).1) h3,rfl⟩
theorem afI (x:A9):bX (Pb x):=⟨λx=>(ID x).1,λx=>U5.lf x,λx=>U4.lf x,trivial⟩

structure uP (z y:pc):Prop where
 e:y.e=0
 ch:y.c=z.c\/(y.m=z.m/\y.c.root=z.c.root)\/(y.m=z.m/\y.c.leaves=z.c.leaves/\∃(i:Nat) (r:Int),y.c.root=z.c.root.set i r)
 gy:we y
theorem ab2 {n:Net} {m:dM} {c:jn} {y:pc} (h:wC n m c 0) (hy:uP ⟨m,c,0⟩ y) (bL:y≠⟨m,c,0⟩):uM n.ins.length n.cg n.bf y.m y.c=false:=by
 have O:=CM h
 cases hb:uM n.ins.length n.cg n.bf y.m y.c with
 | false=>rfl
 | true =>
  exfalso
  have k:=Tk hb
  have he:=hy.e
  obtain ⟨ym,⟨yr,yl⟩,ye⟩:=y
  simp only at k he
  subst he
  have hm:=h.eq
  unfold mapM at hm
  cases hl:iS n.ins.length n.cg with
  | none=>rw [hl] at hm;simp at hm
  | some s =>
   rw [hl] at hm
   simp only [Prod.mk.injEq] at hm
   obtain ⟨rfl,rfl,_⟩:=hm
   have L:=EL _ rfl h.G hl
   rcases hy.ch with h1|⟨h1,h2⟩|⟨h1,h2,i,r,h3⟩
   ·simp only at h1
    rw [h1] at k bL
    exact bL (by rw [adW O.ok k])
   ·simp only at h1 h2
    subst h1
    subst h2
    have:=ack (R:=(jb n.ins.length n.cg s n.bf).2.root) (L:=(jb n.ins.length n.cg s n.bf).2.leaves) O.ok k
    subst this
    exact bL rfl
   ·simp only at h1 h2 h3
    subst h1
    subst h2
    subst h3
    have:=adX h.G L h.dr (at_:=i) (r':=r) k
    refine bL ?_
    have e:(jb n.ins.length n.cg s n.bf).2.root.set i r=(jb n.ins.length n.cg s n.bf).2.root:=this
    rw [e]
theorem abe {I:Nat} {gs:List Gate} {bf:List Int} {m:dM} {c:jn} (h:c.root.length≠m.cells.length):uM I gs bf m c=false:=by
 unfold uM
 simp [h]
end Go.Proofs.Pk
