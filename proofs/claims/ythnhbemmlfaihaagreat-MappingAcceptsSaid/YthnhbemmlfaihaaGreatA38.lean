import Derived.Test.YthnhbemmlfaihaaGreatA13
import Derived.Test.YthnhbemmlfaihaaGreatA37
set_option linter.unusedVariables false
set_option linter.unusedSimpArgs false
set_option maxRecDepth 10000
set_option maxHeartbeats 64000000
namespace Go.Proofs.Pk
open Go Go.Vc
theorem xq {T U:Type} {η:Nat->Value} {q:Nat->Live} {H:aZ} {sz:Nat} {c:T->List SV} {c':U->List SV} (f:T->U) (hc:∀x,c' (f x)=c x) (hl:∀x,cj (c' x)) {l:List T} {v:Value} (h:rel η q H (.sl sz c (λ_=>l)) v):rel η q H (.sl sz c' (λ_=>l.map f)) v:=by
 simp only [rel] at h ⊢
 obtain ⟨⟨ad,cap,h1,h2,h3⟩,_⟩:=h
 refine ⟨⟨ad,cap,by rw [jQ];exact h1,by rw [jQ];exact h2,?_⟩,hl⟩
 rcases h3 with h3|⟨a,e1,e2,h4⟩
 ·exact .inl (by rw [h3];rfl)
 ·refine .inr ⟨a,e1,e2,λj x hx=>?_⟩
  rw [kB,Bs] at hx
  obtain ⟨y,hy,rfl⟩:=hx
  rw [hc];exact h4 j y hy
theorem ac0 {f:FuncId} {S T:Vc.Spec} (I:cY (PP ()) f S) (c:T.α->S.α) (ca:∀a,cj (T.args a)) (hp:∀a,T.pre a->S.pre (c a)) (hr:∀a,S.res a=.b λ_=>true) (ht:∀a,T.res a=.bc true) (hf:T.fr=false)
  (ha:∀(a:T.α) (η:Nat->Value) (q:Nat->Live) (H:aZ) (vals:List Value),aL η q H (T.args a) vals->aL η q H (S.args (c a)) vals):cY (PP ()) f T where
 fn:=I.fn
 lf:=ca
 lr:=λa=>by rw [ht];trivial
 fresh:=λh=>by rw [hf] at h;cases h
 run:=λa dR H F w vals h1 h2 h3=>(I.run (c a) (hp a dR) H F w vals h1 h2 (ha a _ _ _ _ h3)).mono (by
  rintro e w' ⟨v,H',g1,g2,g3,g4,g5,g6,g7⟩
  rw [hr] at g6
  rw [ht]
  exact ⟨v,H',g1,g2,g3,g4,g5,by simpa only [rel] using g6,g7⟩)
abbrev U5:Ty:=pd (.int .u8) 5
abbrev U4:Ty:=pd (.int .u8) 4
structure yx where
 w:List Int
 g:List U5.ow
 o:List U4.ow
structure W3 (x:yx):Prop where
 w:∀b∈x.w,IntKind.u8.min<=b/\b<=IntKind.u8.max
 g:∀b∈x.g,U5.wf b
 o:∀b∈x.o,U4.wf b
def Ye (x:U5.ow):B5:=⟨x.1,x.2.1,x.2.2.1,x.2.2.2.1,x.2.2.2.2.1⟩
def Yf (x:U4.ow):B4:=⟨x.1,x.2.1,x.2.2.1,x.2.2.2.1⟩
def Fu (x:yx):JB:=⟨x.w,x.g.map Ye,x.o.map Yf⟩
def JD (x:yx):List SV:=[.sl 1 sE (λ_=>x.w),.sl 5 U5.cells (λ_=>x.g),.sl 4 U4.cells (λ_=>x.o)]
theorem uS {b:Int} (h:IntKind.u8.min<=b/\b<=IntKind.u8.max):byte b:=by
 simp [IntKind.min,IntKind.max,IntKind.bits,IntKind.signed] at h
 exact ⟨h.1,by omega⟩
theorem afl {x:yx} (h:W3 x):EO (Fu x):=⟨λb hb=>uS (h.w b hb),λb hb=>by
 obtain ⟨y,hy,rfl⟩:=jw.1 hb
 have k:=h.g y hy
 exact ⟨uS k.1,uS k.2.1,uS k.2.2.1,uS k.2.2.2.1,uS k.2.2.2.2.1⟩,λb hb=>by
 obtain ⟨y,hy,rfl⟩:=jw.1 hb
 have k:=h.o y hy
 exact ⟨uS k.1,uS k.2.1,uS k.2.2.1,uS k.2.2.2.1⟩⟩
theorem aec {x:yx} {η:Nat->Value} {q:Nat->Live} {H:aZ} {vs:List Value} (h:aL η q H (JD x) vs):aL η q H [.sl 1 sE (λ_=>(Fu x).w),.sl 5 vd (λ_=>(Fu x).g),.sl 4 ve (λ_=>(Fu x).o)] vs:=by
 unfold JD at h
 simp only [aL] at h ⊢
 obtain ⟨v1,r1,rfl,h1,v2,r2,rfl,h2,v3,r3,rfl,h3,rfl⟩:=h
 exact ⟨v1,_,rfl,h1,v2,_,rfl,xq Ye (λx=>rfl) (λx=>(Ip x).1) h2,v3,_,rfl,xq Yf (λx=>rfl) (λx=>(Iq x).1) h3,rfl⟩
theorem afm (x:yx):cj (JD x):=⟨λx=>(Ih x).1,λx=>U5.lf x,λx=>U4.lf x,trivial⟩
@[reducible] noncomputable def acR:Vc.Spec where
 α:=yx
 args x:=[.agg [.sl 1 sE (λ_=>x.w),.sl 5 U5.cells (λ_=>x.g),.sl 4 U4.cells (λ_=>x.o)]]
 pre x:=W3 x
 res x:=.bc true
theorem agG:cY (PP ()) 8 acR:=ac0 agF Fu (λa=>⟨afm a,trivial⟩) (λa h=>afl h) (λa=>rfl) (λa=>rfl) rfl λa η q H vals h=>by
 simp only [aL,rel] at h ⊢
 obtain ⟨v,r,rfl,⟨vs,rfl,hv⟩,rfl⟩:=h
 refine ⟨_,_,rfl,⟨vs,rfl,?_⟩,rfl⟩
 have:=aec (x:=a) (η:=η) (q:=q) (H:=H) (vs:=vs) (by unfold JD;simp only [aL,rel];exact hv)
 simpa only [aL,rel] using this
end Go.Proofs.Pk
