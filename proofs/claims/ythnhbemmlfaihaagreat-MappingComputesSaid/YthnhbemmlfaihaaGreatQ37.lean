import Derived.Test.YthnhbemmlfaihaaGreatQ11
import Derived.Test.YthnhbemmlfaihaaGreatQ24
import Derived.Test.YthnhbemmlfaihaaGreatQ36
set_option linter.unusedVariables false
set_option linter.unusedSimpArgs false
set_option maxRecDepth 10000
set_option maxHeartbeats 64000000
namespace Go.Proofs.Pk
open Go Go.Vc
theorem yZ {T U:Type} {η:Nat->Value} {q:Nat->Live} {H:bB} {sz:Nat} {c:T->List SV} {c':U->List SV} (f:T->U) (hc:∀x,c' (f x)=c x) (hl:∀x,cI (c' x)) {l:List T} {v:Value} (h:rel η q H (.sl sz c (λ_=>l)) v):rel η q H (.sl sz c' (λ_=>l.map f)) v:=by
 simp only [rel] at h ⊢
 obtain ⟨⟨ad,cap,h1,h2,h3⟩,_⟩:=h
 refine ⟨⟨ad,cap,by rw [iR];exact h1,by rw [iR];exact h2,?_⟩,hl⟩
 rcases h3 with h3|⟨a,e1,e2,h4⟩
 ·exact .inl (by rw [h3];rfl)
 ·refine .inr ⟨a,e1,e2,λj x hx=>?_⟩
  rw [mq,II] at hx
  obtain ⟨y,hy,rfl⟩:=hx
  rw [hc];exact h4 j y hy
theorem akZ {f:FuncId} {S T:Vc.Spec} (I:cR (PP ()) f S) (c:T.α->S.α) (cw:∀a,cI (T.args a)) (hp:∀a,T.pre a->S.pre (c a)) (hr:∀a,S.res a=.b λ_=>true) (ht:∀a,T.res a=.bc true) (hf:T.fr=false)
  (ha:∀(a:T.α) (η:Nat->Value) (q:Nat->Live) (H:bB) (vals:List Value),aQ η q H (T.args a) vals->aQ η q H (S.args (c a)) vals):cR (PP ()) f T where
 fn:=I.fn
 lf:=cw
 lr:=λa=>by rw [ht];trivial
 fresh:=λh=>by rw [hf] at h;cases h
 run:=λa eD H F w vals h1 h2 h3=>(I.run (c a) (hp a eD) H F w vals h1 h2 (ha a _ _ _ _ h3)).mono (by
  rintro e w' ⟨v,H',g1,g2,g3,g4,g5,g6,g7⟩
  rw [hr] at g6
  rw [ht]
  exact ⟨v,H',g1,g2,g3,g4,g5,by simpa only [rel] using g6,g7⟩)
abbrev U5:Ty:=qW (.int .u8) 5
abbrev U4:Ty:=qW (.int .u8) 4
structure E8 where
 w:List Int
 g:List U5.ny
 o:List U4.ny
structure aem (x:E8):Prop where
 w:∀b∈x.w,IntKind.u8.min<=b/\b<=IntKind.u8.max
 g:∀b∈x.g,U5.wf b
 o:∀b∈x.o,U4.wf b
def afR (x:U5.ny):B5:=⟨x.1,x.2.1,x.2.2.1,x.2.2.2.1,x.2.2.2.2.1⟩
def afS (x:U4.ny):B4:=⟨x.1,x.2.1,x.2.2.1,x.2.2.2.1⟩
def Kx (x:E8):Pa:=⟨x.w,x.g.map afR,x.o.map afS⟩
def Vu (x:E8):List SV:=[.sl 1 nA (λ_=>x.w),.sl 5 U5.cells (λ_=>x.g),.sl 4 U4.cells (λ_=>x.o)]
theorem s7 {b:Int} (h:IntKind.u8.min<=b/\b<=IntKind.u8.max):byte b:=by
 simp [IntKind.min,IntKind.max,IntKind.bits,IntKind.signed] at h
 exact ⟨h.1,by omega⟩
theorem anC {x:E8} (h:aem x):JN (Kx x):=⟨λb hb=>s7 (h.w b hb),λb hb=>by
 obtain ⟨y,hy,rfl⟩:=jS.1 hb
 have k:=h.g y hy
 exact ⟨s7 k.1,s7 k.2.1,s7 k.2.2.1,s7 k.2.2.2.1,s7 k.2.2.2.2.1⟩,λb hb=>by
 obtain ⟨y,hy,rfl⟩:=jS.1 hb
 have k:=h.o y hy
 exact ⟨s7 k.1,s7 k.2.1,s7 k.2.2.1,s7 k.2.2.2.1⟩⟩
theorem amg {x:E8} {η:Nat->Value} {q:Nat->Live} {H:bB} {vs:List Value} (h:aQ η q H (Vu x) vs):aQ η q H [.sl 1 nA (λ_=>(Kx x).w),.sl 5 yq (λ_=>(Kx x).g),.sl 4 yu (λ_=>(Kx x).o)] vs:=by
 unfold Vu at h
 simp only [aQ] at h ⊢
 obtain ⟨v1,r1,rfl,h1,v2,r2,rfl,h2,v3,r3,rfl,h3,rfl⟩:=h
 exact ⟨v1,_,rfl,h1,v2,_,rfl,yZ afR (λx=>rfl) (λx=>(NO x).1) h2,v3,_,rfl,yZ afS (λx=>rfl) (λx=>(NP x).1) h3,rfl⟩
theorem anD (x:E8):cI (Vu x):=⟨λx=>(y7 x).1,λx=>U5.lf x,λx=>U4.lf x,trivial⟩
abbrev U3:Ty:=qW (.int .u8) 3
abbrev Uh:Ty:=.pair (.sl (.int .i64)) (.pair (.int .i64) (.pair (.int .i64) .unit))
abbrev zA:Ty:=.pair (.pair (.int .i64) (.pair (.sl Uh) (.pair (.sl (.int .i64)) .unit))) (.pair U3 (.pair (.int .i64) (.pair (.sl (.int .u8)) (.pair (.sl (.sl (.int .i64))) .unit))))
def toCell (x:Uh.ny):Cell:=⟨x.1,x.2.1,x.2.2.1⟩
def Ui (o:zA.ny):Es:=⟨⟨o.1.1,o.1.2.1.map toCell,o.1.2.2.1⟩,⟨o.2.1.1,o.2.1.2.1,o.2.1.2.2.1⟩,o.2.2.1,o.2.2.2.1,o.2.2.2.2.1⟩
theorem aj6 (o:zA.ny):zA.cells o=[.i .i64 (λ_=>o.1.1),.sl 3 Uh.cells (λ_=>o.1.2.1),.sl 1 bP (λ_=>o.1.2.2.1),.i .u8 (λ_=>o.2.1.1),.i .u8 (λ_=>o.2.1.2.1),.i .u8 (λ_=>o.2.1.2.2.1),.i .i64 (λ_=>o.2.2.1),.sl 1 nA (λ_=>o.2.2.2.1),.sl 1 e8 (λ_=>o.2.2.2.2.1)]:=rfl
theorem amh {o:zA.ny} {η:Nat->Value} {q:Nat->Live} {H:bB} {vs:List Value} (h:aQ η q H (zA.cells o) vs):aQ η q H (Hh (Ui o)) vs:=by
 rw [aj6] at h
 unfold Hh Ui
 simp only [aQ] at h ⊢
 obtain ⟨v1,r1,rfl,h1,v2,r2,rfl,h2,v3,r3,rfl,h3,v4,r4,rfl,h4,v5,r5,rfl,h5,v6,r6,rfl,h6,v7,r7,rfl,h7,v8,r8,rfl,h8,v9,r9,rfl,h9,rfl⟩:=h
 exact ⟨v1,_,rfl,h1,v2,_,rfl,yZ toCell (λx=>rfl) (λx=>(wx x).1) h2,v3,_,rfl,h3,v4,_,rfl,h4,v5,_,rfl,h5,v6,_,rfl,h6,v7,_,rfl,h7,v8,_,rfl,h8,v9,_,rfl,h9,rfl⟩
structure W8 where
 x:E8
 b:List Int
 o:zA.ny
structure are (z:W8):Prop where
 x:aem z.x
 b:∀y∈z.b,IntKind.u8.min<=y/\y<=IntKind.u8.max
 k:U3.wf z.o.2.1
@[reducible] noncomputable def mcR:Vc.Spec where
 α:=W8
 args z:=[.agg [.sl 1 nA (λ_=>z.x.w),.sl 5 U5.cells (λ_=>z.x.g),.sl 4 U4.cells (λ_=>z.x.o)],.sl 1 nA (λ_=>z.b),.agg (zA.cells z.o)]
 pre z:=are z
 res z:=.bc true
theorem apA:cR (PP ()) 9 mcR:=akZ apz (λz=>⟨Kx z.x,z.b,Ui z.o⟩) (λa=>⟨anD a.x,λx=>(y7 x).1,zA.lf a.o,trivial⟩) (λa h=>⟨anC h.x,λy hy=>s7 (h.b y hy),s7 h.k.1,s7 h.k.2.1,s7 h.k.2.2.1⟩) (λa=>rfl) (λa=>rfl) rfl λa η q H vals h=>by
 simp only [aQ] at h ⊢
 obtain ⟨v,r,rfl,h1,v2,r2,rfl,h2,v3,r3,rfl,h3,rfl⟩:=h
 refine ⟨v,_,rfl,?_,v2,_,rfl,h2,v3,_,rfl,?_,rfl⟩
 ·simp only [rel] at h1 ⊢
  obtain ⟨vs,rfl,hv⟩:=h1
  refine ⟨vs,rfl,?_⟩
  have:=amg (x:=a.x) (η:=η) (q:=q) (H:=H) (vs:=vs) hv
  exact this
 ·simp only [rel] at h3 ⊢
  obtain ⟨vs,rfl,hv⟩:=h3
  exact ⟨vs,rfl,amh hv⟩
end Go.Proofs.Pk
