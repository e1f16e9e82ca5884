import Derived.Test.YthnhbemmlfaihaaGreatO13
import Derived.Test.YthnhbemmlfaihaaGreatO43
import Derived.Test.YthnhbemmlfaihaaGreatO45
set_option linter.unusedVariables false
set_option linter.unusedSimpArgs false
set_option maxRecDepth 10000
set_option maxHeartbeats 64000000
namespace Go.Proofs.Pk
open Go Go.Vc
theorem zY {T U:Type} {η:Nat->Value} {q:Nat->Live} {H:bu} {sz:Nat} {c:T->List SV} {c':U->List SV} (f:T->U) (hc:∀x,c' (f x)=c x) (hl:∀x,cN (c' x)) {l:List T} {v:Value} (h:rel η q H (.sl sz c (λ_=>l)) v):rel η q H (.sl sz c' (λ_=>l.map f)) v:=by
 simp only [rel] at h ⊢
 obtain ⟨⟨ad,cap,h1,h2,h3⟩,_⟩:=h
 refine ⟨⟨ad,cap,by rw [jP];exact h1,by rw [jP];exact h2,?_⟩,hl⟩
 rcases h3 with h3|⟨a,e1,e2,h4⟩
 ·exact .inl (by rw [h3];rfl)
 ·refine .inr ⟨a,e1,e2,λj x hx=>?_⟩
  rw [ml,GU] at hx
  obtain ⟨y,hy,rfl⟩:=hx
  rw [hc];exact h4 j y hy
theorem aiF {f:FuncId} {S T:Vc.Spec} (I:dt (PP ()) f S) (c:T.α->S.α) (cv:∀a,cN (T.args a)) (hp:∀a,T.pre a->S.pre (c a)) (hr:∀a,S.res a=.b λ_=>true) (ht:∀a,T.res a=.bc true) (hf:T.fr=false)
  (ha:∀(a:T.α) (η:Nat->Value) (q:Nat->Live) (H:bu) (vals:List Value),aP η q H (T.args a) vals->aP η q H (S.args (c a)) vals):dt (PP ()) f T where
 fn:=I.fn
 lf:=cv
 lr:=λa=>by rw [ht];trivial
 fresh:=λh=>by rw [hf] at h;cases h
 run:=λa ej H F w vals h1 h2 h3=>(I.run (c a) (hp a ej) H F w vals h1 h2 (ha a _ _ _ _ h3)).mono (by
  rintro e w' ⟨v,H',g1,g2,g3,g4,g5,g6,g7⟩
  rw [hr] at g6
  rw [ht]
  exact ⟨v,H',g1,g2,g3,g4,g5,by simpa only [rel] using g6,g7⟩)
abbrev U5:Ty:=ra (.int .u8) 5
abbrev U4:Ty:=ra (.int .u8) 4
structure DB where
 w:List Int
 g:List U5.p8
 o:List U4.p8
structure abZ (x:DB):Prop where
 w:∀b∈x.w,IntKind.u8.min<=b/\b<=IntKind.u8.max
 g:∀b∈x.g,U5.wf b
 o:∀b∈x.o,U4.wf b
def adz (x:U5.p8):B5:=⟨x.1,x.2.1,x.2.2.1,x.2.2.2.1,x.2.2.2.2.1⟩
def adA (x:U4.p8):B4:=⟨x.1,x.2.1,x.2.2.1,x.2.2.2.1⟩
def IV (x:DB):No:=⟨x.w,x.g.map adz,x.o.map adA⟩
def Ti (x:DB):List SV:=[.sl 1 pq (λ_=>x.w),.sl 5 U5.cells (λ_=>x.g),.sl 4 U4.cells (λ_=>x.o)]
theorem v7 {b:Int} (h:IntKind.u8.min<=b/\b<=IntKind.u8.max):byte b:=by
 simp [IntKind.min,IntKind.max,IntKind.bits,IntKind.signed] at h
 exact ⟨h.1,by omega⟩
theorem ala {x:DB} (h:abZ x):H9 (IV x):=⟨λb hb=>v7 (h.w b hb),λb hb=>by
 obtain ⟨y,hy,rfl⟩:=iM.1 hb
 have k:=h.g y hy
 exact ⟨v7 k.1,v7 k.2.1,v7 k.2.2.1,v7 k.2.2.2.1,v7 k.2.2.2.2.1⟩,λb hb=>by
 obtain ⟨y,hy,rfl⟩:=iM.1 hb
 have k:=h.o y hy
 exact ⟨v7 k.1,v7 k.2.1,v7 k.2.2.1,v7 k.2.2.2.1⟩⟩
theorem ajV {x:DB} {η:Nat->Value} {q:Nat->Live} {H:bu} {vs:List Value} (h:aP η q H (Ti x) vs):aP η q H [.sl 1 pq (λ_=>(IV x).w),.sl 5 xE (λ_=>(IV x).g),.sl 4 xF (λ_=>(IV x).o)] vs:=by
 unfold Ti at h
 simp only [aP] at h ⊢
 obtain ⟨v1,r1,rfl,h1,v2,r2,rfl,h2,v3,r3,rfl,h3,rfl⟩:=h
 exact ⟨v1,_,rfl,h1,v2,_,rfl,zY adz (λx=>rfl) (λx=>(LY x).1) h2,v3,_,rfl,zY adA (λx=>rfl) (λx=>(LZ x).1) h3,rfl⟩
theorem alb (x:DB):cN (Ti x):=⟨λx=>(Cj x).1,λx=>U5.lf x,λx=>U4.lf x,trivial⟩
structure Tj where
 x:DB
 b:List Int
structure amU (z:Tj):Prop where
 x:abZ z.x
 b:∀y∈z.b,IntKind.u8.min<=y/\y<=IntKind.u8.max
@[reducible] noncomputable def adB:Vc.Spec where
 α:=Tj
 args z:=[.agg [.sl 1 pq (λ_=>z.x.w),.sl 5 U5.cells (λ_=>z.x.g),.sl 4 U4.cells (λ_=>z.x.o)],.sl 1 pq (λ_=>z.b)]
 pre z:=amU z
 res z:=.bc true
theorem alc:dt (PP ()) 7 adB:=aiF amT (λz=>⟨IV z.x,z.b⟩) (λa=>⟨alb a.x,λx=>(Cj x).1,trivial⟩) (λa h=>⟨ala h.x,λy hy=>v7 (h.b y hy)⟩) (λa=>rfl) (λa=>rfl) rfl λa η q H vals h=>by
 simp only [aP] at h ⊢
 obtain ⟨v,r,rfl,h1,v2,r2,rfl,h2,rfl⟩:=h
 refine ⟨v,_,rfl,?_,v2,_,rfl,h2,rfl⟩
 simp only [rel] at h1 ⊢
 obtain ⟨vs,rfl,hv⟩:=h1
 refine ⟨vs,rfl,?_⟩
 have:=ajV (x:=a.x) (η:=η) (q:=q) (H:=H) (vs:=vs) hv
 exact this
end Go.Proofs.Pk
