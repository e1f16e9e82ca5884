import Derived.Test.YthnhbemmlfaihaaC13
import Derived.Test.YthnhbemmlfaihaaC32
import Derived.Test.YthnhbemmlfaihaaC33
set_option linter.unusedVariables false
set_option linter.unusedSimpArgs false
set_option maxRecDepth 10000
set_option maxHeartbeats 64000000
namespace Go.Proofs.Pk
open Go Go.Vc
theorem xu {T U:Type} {η:Nat->Value} {q:Nat->Live} {H:aV} {sz:Nat} {c:T->List SV} {c':U->List SV} (f:T->U) (hc:∀x,c' (f x)=c x) (hl:∀x,bZ (c' x)) {l:List T} {v:Value} (h:rel η q H (.sl sz c (λ_=>l)) v):rel η q H (.sl sz c' (λ_=>l.map f)) v:=by
 simp only [rel] at h ⊢
 obtain ⟨⟨ad,cap,h1,h2,h3⟩,_⟩:=h
 refine ⟨⟨ad,cap,by rw [kr];exact h1,by rw [kr];exact h2,?_⟩,hl⟩
 rcases h3 with h3|⟨a,e1,e2,h4⟩
 ·exact .inl (by rw [h3];rfl)
 ·refine .inr ⟨a,e1,e2,λj x hx=>?_⟩
  rw [k8,DL] at hx
  obtain ⟨y,hy,rfl⟩:=hx
  rw [hc];exact h4 j y hy
theorem acS {f:FuncId} {S T:Vc.Spec} (I:dm (PP ()) f S) (c:T.α->S.α) (bV:∀a,bZ (T.args a)) (hp:∀a,T.pre a->S.pre (c a)) (hr:∀a,S.res a=.b λ_=>true) (ht:∀a,T.res a=.bc true) (hf:T.fr=false)
  (ha:∀(a:T.α) (η:Nat->Value) (q:Nat->Live) (H:aV) (vals:List Value),aK η q H (T.args a) vals->aK η q H (S.args (c a)) vals):dm (PP ()) f T where
 fn:=I.fn
 lf:=bV
 lr:=λa=>by rw [ht];trivial
 fresh:=λh=>by rw [hf] at h;cases h
 run:=λa dL H F w vals h1 h2 h3=>(I.run (c a) (hp a dL) H F w vals h1 h2 (ha a _ _ _ _ h3)).mono (by
  rintro e w' ⟨v,H',g1,g2,g3,g4,g5,g6,g7⟩
  rw [hr] at g6
  rw [ht]
  exact ⟨v,H',g1,g2,g3,g4,g5,by simpa only [rel] using g6,g7⟩)
abbrev U5:Ty:=oH (.int .u8) 5
abbrev U4:Ty:=oH (.int .u8) 4
structure AI where
 w:List Int
 g:List U5.nr
 o:List U4.nr
structure WK (x:AI):Prop where
 w:∀b∈x.w,IntKind.u8.min<=b/\b<=IntKind.u8.max
 g:∀b∈x.g,U5.wf b
 o:∀b∈x.o,U4.wf b
def OE (x:U5.nr):B5:=⟨x.1,x.2.1,x.2.2.1,x.2.2.2.1,x.2.2.2.2.1⟩
def X0 (x:U4.nr):B4:=⟨x.1,x.2.1,x.2.2.1,x.2.2.2.1⟩
def Fb (x:AI):Jk:=⟨x.w,x.g.map OE,x.o.map X0⟩
def OF (x:AI):List SV:=[.sl 1 sF (λ_=>x.w),.sl 5 U5.cells (λ_=>x.g),.sl 4 U4.cells (λ_=>x.o)]
theorem pd {b:Int} (h:IntKind.u8.min<=b/\b<=IntKind.u8.max):byte b:=by
 simp [IntKind.min,IntKind.max,IntKind.bits,IntKind.signed] at h
 exact ⟨h.1,by omega⟩
theorem ae9 {x:AI} (h:WK x):Ez (Fb x):=⟨λb hb=>pd (h.w b hb),λb hb=>by
 obtain ⟨y,hy,rfl⟩:=jO.1 hb
 have k:=h.g y hy
 exact ⟨pd k.1,pd k.2.1,pd k.2.2.1,pd k.2.2.2.1,pd k.2.2.2.2.1⟩,λb hb=>by
 obtain ⟨y,hy,rfl⟩:=jO.1 hb
 have k:=h.o y hy
 exact ⟨pd k.1,pd k.2.1,pd k.2.2.1,pd k.2.2.2.1⟩⟩
theorem ad3 {x:AI} {η:Nat->Value} {q:Nat->Live} {H:aV} {vs:List Value} (h:aK η q H (OF x) vs):aK η q H [.sl 1 sF (λ_=>(Fb x).w),.sl 5 tP (λ_=>(Fb x).g),.sl 4 uY (λ_=>(Fb x).o)] vs:=by
 unfold OF at h
 simp only [aK] at h ⊢
 obtain ⟨v1,r1,rfl,h1,v2,r2,rfl,h2,v3,r3,rfl,h3,rfl⟩:=h
 exact ⟨v1,_,rfl,h1,v2,_,rfl,xu OE (λx=>rfl) (λx=>(El x).1) h2,v3,_,rfl,xu X0 (λx=>rfl) (λx=>(HX x).1) h3,rfl⟩
theorem afa (x:AI):bZ (OF x):=⟨λx=>(HW x).1,λx=>U5.lf x,λx=>U4.lf x,trivial⟩
structure Qd where
 x:AI
 b:U5.nr
structure ahM (z:Qd):Prop where
 x:WK z.x
 b:U5.wf z.b
@[reducible] noncomputable def igR:Vc.Spec where
 α:=Qd
 args z:=[.agg [.sl 1 sF (λ_=>z.x.w),.sl 5 U5.cells (λ_=>z.x.g),.sl 4 U4.cells (λ_=>z.x.o)],.agg (U5.cells z.b)]
 pre z:=ahM z
 res z:=.bc true
theorem agv:dm (PP ()) 4 igR:=acS agu (λz=>⟨Fb z.x,OE z.b⟩) (λa=>⟨afa a.x,U5.lf a.b,trivial⟩) (λa h=>⟨ae9 h.x,pd h.b.1,pd h.b.2.1,pd h.b.2.2.1,pd h.b.2.2.2.1,pd h.b.2.2.2.2.1⟩) (λa=>rfl) (λa=>rfl) rfl λa η q H vals h=>by
 simp only [aK] at h ⊢
 obtain ⟨v,r,rfl,h1,v2,r2,rfl,h2,rfl⟩:=h
 refine ⟨v,_,rfl,?_,v2,_,rfl,h2,rfl⟩
 simp only [rel] at h1 ⊢
 obtain ⟨vs,rfl,hv⟩:=h1
 refine ⟨vs,rfl,?_⟩
 have:=ad3 (x:=a.x) (η:=η) (q:=q) (H:=H) (vs:=vs) hv
 exact this
end Go.Proofs.Pk
