import Derived.Test.YthnhbemmlfaihaaGreatT19
import Derived.Test.YthnhbemmlfaihaaGreatT32
import Derived.Test.YthnhbemmlfaihaaGreatT33
import Derived.Test.YthnhbemmlfaihaaGreatT34
import Derived.Test.YthnhbemmlfaihaaGreatT37
import Derived.Test.YthnhbemmlfaihaaGreatT40
import Derived.Test.YthnhbemmlfaihaaGreatT41
set_option linter.unusedVariables false
set_option linter.unusedSimpArgs false
set_option maxRecDepth 10000
set_option maxHeartbeats 64000000
namespace Go.Proofs.Pk
open Go Go.Vc
theorem amI {P:Unit->Program} {f:FuncId} {S:fJ} {T:Vc.Spec} {fn:Func} (I:eI P f S) (F:nP (P ()) f fn) (c:T.α->S.α) (ha:∀a,T.args a=S.args (c a)) (hp:∀a,T.pre a->S.pre (c a)) (hr:∀a y,T.pre a->S.post (c a) y->S.res (c a) y=T.res a) (XB:∀a,LF (T.res a)) (nX:T.fr=false):cS (P ()) f T where
 fn:=⟨fn,F⟩
 lf:=λa=>by rw [ha];exact I.lf _
 lr:=XB
 fresh:=λh=>by rw [nX] at h;cases h
 run:=λa e9 H F' w vals hH hF nQ=>by
  rw [ha] at nQ
  refine (I.run (c a) (hp a e9) H F' w vals hH hF nQ).mono ?_
  rintro e w' ⟨y,v,H',h1,h2,h3,h4,h5,h6,h7,h8⟩
  rw [hr a y e9 h1] at h7
  exact ⟨v,H',h2,h3,h4,h5,h6,h7,h8⟩
open Classical in
noncomputable def uU (p:bq):Bool:=decide (Cg p)
@[reducible] noncomputable def Ub:Vc.Spec where
 α:=bq
 args x:=[.agg (fq x)]
 pre x:=AP x
 res x:=.b (λ_=>uU x)
theorem aa6:cS (PP ()) 20 Ub:=amI anx (TN Tryz.func20 (by kernel_rfl)) (λa=>a) (λa=>rfl) (λa h=>h) (λa y _ hy=>by
 have e:uU a=y:=by
  unfold uU
  have hi:=hy.iff
  cases y<;>simp at hi ⊢<;>exact hi
 show SV.b (λ_=>y)=SV.b (λ_=>uU a)
 rw [e]) (λa=>trivial) rfl
open Classical in
noncomputable def At (y:tO) (p:bq):Int:=if (tE y).2=0/\Cg p/\Hi (tE y).1 p then 0 else 270
structure afN where
 y:tO
 p:bq
structure afO (z:afN):Prop where
 pa:CK z.y
 v:AP z.p
theorem afP {p q:bq} (hp:Shape p) (hq:Shape q) (h1:p.ins.length<=1000000) (h2:p.outs.length<=1000000) (h3:q.ins.length<=1000000) (h4:q.outs.length<=1000000):Lf ⟨p,q⟩:=by
 have Q8:=hp.dH
 have hqb:=hq.dH
 exact ⟨h1,h2,by show p.blocks.length<=1000000;omega,by show p.ay.length<=1000000;rw [hp.o5];exact h2,λx hx=>by have:=(hp.formed x hx).k;omega,
  h3,h4,by show q.blocks.length<=1000000;omega,by show q.ay.length<=1000000;rw [hq.o5];exact h4,λx hx=>by have:=(hq.formed x hx).k;omega,
  λx hx s hs=>⟨(hq.used x hx s hs).lo,(hq.used x hx s hs).hi⟩,λs hs=>⟨(hq.ay s hs).lo,(hq.ay s hs).hi⟩⟩
theorem ZV {n:Net} {m:gE} (hn:eQ n):(rR n m).ins.length<=600/\(rR n m).outs.length<=n.outs.length:=by
 have h1:(others n.ins).length<=n.ins.length:=zZ _ _
 have h2:(others n.outs).length<=n.outs.length:=zZ _ _
 have:=hn.pf
 exact ⟨by show (others n.ins).length<=600;omega,h2⟩
@[reducible] noncomputable def Uc:Vc.Spec where
 α:=afN
 args z:=[.agg [.sl 3 dc (λ_=>z.y.n.ins),.sl 5 dB (λ_=>z.y.n.gG),.sl 3 dc (λ_=>z.y.n.outs),.sl 1 bJ (λ_=>z.y.n.ay)],.agg [.i .i64 (λ_=>z.y.m.n),.sl 3 rf (λ_=>z.y.m.cells),.sl 1 bJ (λ_=>z.y.m.ay)],.agg (fq z.p)]
 pre z:=afO z
 res z:=.i .i64 (λ_=>At z.y z.p)
noncomputable def aup (n m:Nat):Ctx:=eB n m [] [(74,Ku),(20,Ub),(24,Po)]
theorem ap5 (n m:Nat):CB PP (aup n m):=eD n m trivial ⟨Ua,aa6,adh,trivial⟩
theorem amJ:cS (PP ()) 25 Uc:=by
 refine dP (ap5 0 0) (fo Tryz.func25) (λa=>⟨⟨(λx=>(gL x).1),(λx=>(eK x).1),(λx=>(gL x).1),(λx=>(cM x).1),trivial⟩,⟨trivial,(λx=>(Af x).1),(λx=>(cM x).1),trivial⟩,km a.p,trivial⟩) (λa=>trivial) ?_
 rintro ⟨⟨⟨ins,gs,outs,dr⟩,⟨mn,mc,md⟩⟩,⟨pins,dQ,fe,eY⟩⟩ hx
 have hx:afO ⟨⟨⟨ins,gs,outs,dr⟩,⟨mn,mc,md⟩⟩,⟨pins,dQ,fe,eY⟩⟩:=hx
 have FU:=hx.pa
 have hv:=hx.v
 simp only at FU hv
 have jS:eQ ⟨ins,gs,outs,dr⟩:=FU.pb.Bg
 obtain ⟨R,hR⟩:∃R,At ⟨⟨ins,gs,outs,dr⟩,⟨mn,mc,md⟩⟩ ⟨pins,dQ,fe,eY⟩=R:=⟨_,rfl⟩
 have j9:Uc.res ⟨⟨⟨ins,gs,outs,dr⟩,⟨mn,mc,md⟩⟩,⟨pins,dQ,fe,eY⟩⟩=.i .i64 (λ_=>R):=by rw [<-hR]
 rw [j9]
 unfold At at hR
 obtain ⟨K,hK⟩:∃K,tE ⟨⟨ins,gs,outs,dr⟩,⟨mn,mc,md⟩⟩=K:=⟨_,rfl⟩
 rw [hK] at hR
 have W3:K.2=0->Shape K.1/\K.1.ins.length<=1000000/\K.1.outs.length<=1000000:=λh2=>by
  rw [<-hK] at h2 ⊢
  unfold tE at h2 ⊢
  by_cases hc:((⟨⟨ins,gs,outs,dr⟩,⟨mn,mc,md⟩⟩:tO).n.ins.length:Int)=(⟨⟨ins,gs,outs,dr⟩,⟨mn,mc,md⟩⟩:tO).m.n/\(⟨⟨ins,gs,outs,dr⟩,⟨mn,mc,md⟩⟩:tO).n.outs.length=(⟨⟨ins,gs,outs,dr⟩,⟨mn,mc,md⟩⟩:tO).m.ay.length
  ·rw [if_pos hc]
   have hs:=ZV (m:=⟨mn,mc,md⟩) jS
   have ho:outs.length<=100000:=FU.pb.outs
   have h2:(rR ⟨ins,gs,outs,dr⟩ ⟨mn,mc,md⟩).outs.length<=outs.length:=hs.2
   exact ⟨(Tp jS (FU.map hc.1 hc.2)).1,by have:=hs.1;show (rR ⟨ins,gs,outs,dr⟩ ⟨mn,mc,md⟩).ins.length<=1000000;omega,by show (rR ⟨ins,gs,outs,dr⟩ ⟨mn,mc,md⟩).outs.length<=1000000;omega⟩
  ·rw [if_neg hc] at h2
   cases h2
 have w1:(gM ⟨⟨ins,gs,outs,dr⟩,⟨mn,mc,md⟩⟩).1.ins=K.1.ins:=by rw [yz,hK]
 have w2:(gM ⟨⟨ins,gs,outs,dr⟩,⟨mn,mc,md⟩⟩).1.blocks=K.1.blocks:=by rw [yz,hK]
 have w3:(gM ⟨⟨ins,gs,outs,dr⟩,⟨mn,mc,md⟩⟩).1.outs=K.1.outs:=by rw [yz,hK]
 have w4:(gM ⟨⟨ins,gs,outs,dr⟩,⟨mn,mc,md⟩⟩).1.ay=K.1.ay:=by rw [yz,hK]
 obtain ⟨W,E⟩:=K
 obtain ⟨wi,wb,wo,wd⟩:=W
 simp only at W3 w1 w2 w3 w4 hR
 refine ⟨?_⟩
 cbv
 refine ⟨⟨⟨ins,gs,outs,dr⟩,⟨mn,mc,md⟩⟩,⟨by exact bP,FU⟩,?_⟩
 cbv
 refine ⟨λh=>?_,λh=>?_⟩
 ·have e:270=R:=by
   have h':(!aV (gM ⟨⟨ins,gs,outs,dr⟩,⟨mn,mc,md⟩⟩).2 0)=true:=h.out
   rw [yz,hK] at h'
   have h2:¬E=0:=by simpa [aV] using h'
   rw [<-hR,if_neg λhc=>h2 hc.1]
  cbv
  exact ⟨by exact aJ⟩
 have hE:E=0:=by
  have h':(!aV (gM ⟨⟨ins,gs,outs,dr⟩,⟨mn,mc,md⟩⟩).2 0)=false:=h.out
  rw [yz,hK] at h'
  simpa [aV] using h'
 have Yz:=W3 hE
 clear h W3
 cbv
 refine ⟨⟨pins,dQ,fe,eY⟩,⟨by exact bP,hv⟩,?_⟩
 cbv
 refine ⟨λh=>?_,λh=>?_⟩
 ·have e:270=R:=by
   have h':(!uU ⟨pins,dQ,fe,eY⟩)=true:=h.out
   rw [<-hR,if_neg λhc=>by
    unfold uU at h'
    simp [hc.2.1] at h']
  cbv
  exact ⟨by exact aJ⟩
 have hvo:Cg ⟨pins,dQ,fe,eY⟩:=by
  have h':(!uU ⟨pins,dQ,fe,eY⟩)=false:=h.out
  unfold uU at h'
  simpa using h'
 have ss:Lf ⟨⟨wi,wb,wo,wd⟩,⟨pins,dQ,fe,eY⟩⟩:=afP Yz.1 hvo.1 Yz.2.1 Yz.2.2 hv.small.ins hv.outs
 clear h
 cbv
 refine ⟨⟨⟨wi,wb,wo,wd⟩,⟨pins,dQ,fe,eY⟩⟩,⟨by have dG:=w1;have pe:=w2;have xZ:=w3;have x3:=w4;exact cN,ss⟩,?_⟩
 cbv
 refine ⟨λh=>?_,λh=>?_⟩
 ·have e:270=R:=by
   have h':(!yU ⟨wi,wb,wo,wd⟩ ⟨pins,dQ,fe,eY⟩)=true:=h.out
   rw [<-hR,if_neg λhc=>by
    unfold yU at h'
    simp [hc.2.2] at h']
  cbv
  exact ⟨by exact aJ⟩
 ·have e:0=R:=by
   have h':(!yU ⟨wi,wb,wo,wd⟩ ⟨pins,dQ,fe,eY⟩)=false:=h.out
   unfold yU at h'
   rw [<-hR,if_pos ⟨hE,hvo,by simpa using h'⟩]
  cbv
  exact ⟨by exact aJ⟩
structure VC (p:bq):Prop where
 ins:p.ins.length<=1000000
 outs:p.outs.length<=1000000
 ay:p.ay.length<=1000000
 blocks:p.blocks.length<=1000000
 k:∀x∈p.blocks,x.ins.length<=1000000
@[reducible] noncomputable def ahT:Vc.Spec where
 α:=bq
 args p:=[.agg (fq p),.agg (fq p)]
 pre p:=VC p
 res p:=.b (λ_=>true)
noncomputable def auq (n m:Nat):Ctx:=eB n m [] [(180,U9),(217,adZ)]
theorem ael (n m:Nat):CB PP (auq n m):=eD n m trivial ⟨ac3,ano,trivial⟩
theorem ap6:cS (PP ()) 150 ahT:=by
 refine dP (ael 0 0) (fo Tryz.func150) (λa=>⟨km a,km a,trivial⟩) (λa=>trivial) ?_
 rintro ⟨ins,blocks,outs,ay⟩ hx
 have hx:VC ⟨ins,blocks,outs,ay⟩:=hx
 have QV:blocks.length<=1000000:=hx.blocks
 have w1:(⟨ins,ins⟩:nt bT).a.length<=1000000000000/\(⟨ins,ins⟩:nt bT).b.length<=1000000000000:=by have:ins.length<=1000000:=hx.ins;exact ⟨by show ins.length<=_;omega,by show ins.length<=_;omega⟩
 have w2:(⟨outs,outs⟩:nt bT).a.length<=1000000000000/\(⟨outs,outs⟩:nt bT).b.length<=1000000000000:=by have:outs.length<=1000000:=hx.outs;exact ⟨by show outs.length<=_;omega,by show outs.length<=_;omega⟩
 have w3:(⟨ay,ay⟩:nt Int).a.length<=1000000000000/\(⟨ay,ay⟩:nt Int).b.length<=1000000000000:=by have:ay.length<=1000000:=hx.ay;exact ⟨by show ay.length<=_;omega,by show ay.length<=_;omega⟩
 have n1:(!jv ins ins)=true->False:=λh=>by rw [sE.2 rfl] at h;cases h
 have n2:(!jv outs outs)=true->False:=λh=>by rw [sE.2 rfl] at h;cases h
 have n3:(!jv ay ay)=true->False:=λh=>by rw [sE.2 rfl] at h;cases h
 have n4:(!aV (blocks.length:Int) (blocks.length:Int))=true->False:=λh=>by simp [aV] at h
 refine ⟨?_⟩
 cbv
 refine ⟨⟨ins,ins⟩,⟨by exact bP,w1⟩,?_⟩
 cbv
 refine ⟨λh=>?_,λh=>?_⟩
 ·have hF:=n1 h.out
  cases hF
 clear h
 cbv
 refine ⟨⟨outs,outs⟩,⟨by exact bP,w2⟩,?_⟩
 cbv
 refine ⟨λh=>?_,λh=>?_⟩
 ·have hF:=n2 h.out
  cases hF
 clear h
 cbv
 refine ⟨⟨ay,ay⟩,⟨by exact bP,w3⟩,?_⟩
 cbv
 refine ⟨λh=>?_,λh=>?_⟩
 ·have hF:=n3 h.out
  cases hF
 clear h
 cbv
 refine ⟨λh=>?_,λh=>?_⟩
 ·have hF:=n4 h.out
  cases hF
 clear h
 cbv
 refine Sat.ca (ael 0 0) 2 5 [] (λi:Nat=>[(5,.i .i64 (λ_=>(i:Int)))]) (λi=>[]) (λi=>i<=blocks.length) (λi=>blocks.length - i) 0 (by exact ao) (by exact ao) (cJ _) ?_
 intro i hi
 have hi:i<=blocks.length:=hi
 have h0:=n0 i
 have h1:=cd (i:=i) (by omega)
 cbv
 refine ⟨λh=>?_,λh=>?_⟩
 ·have bp:i < blocks.length:=bE
  have a7:blocks.length - (i+1) < blocks.length - i:=by omega
  refine (bz bp).elim λx kJ=>?_
  have w4:(⟨x.ins,x.ins⟩:nt Int).a.length<=1000000000000/\(⟨x.ins,x.ins⟩:nt Int).b.length<=1000000000000:=by have:x.ins.length<=1000000:=hx.k x (b_ kJ);exact ⟨by show x.ins.length<=_;omega,by show x.ins.length<=_;omega⟩
  have m1:(!jv x.ins x.ins)=true->False:=λh=>by rw [sE.2 rfl] at h;cases h
  have m2:∀v:Int,(!aV v v)=true->False:=λv h=>by simp [aV] at h
  cbv
  refine ⟨x,⟨h0,kJ⟩,?_⟩
  cbv
  refine ⟨x,⟨h0,kJ⟩,?_⟩
  cbv
  refine ⟨⟨x.ins,x.ins⟩,⟨by exact bP,w4⟩,?_⟩
  cbv
  refine ⟨λh=>?_,λh=>?_⟩
  ·have hF:=m1 h.out
   cases hF
  clear h
  cbv
  refine ⟨λh=>?_,λh=>?_⟩
  ·have hF:=m2 _ h.out
   cases hF
  clear h
  cbv
  refine ⟨λh=>?_,λh=>?_⟩
  ·have hF:=m2 _ h.out
   cases hF
  clear h
  cbv
  refine ⟨λh=>?_,λh=>?_⟩
  ·have hF:=m2 _ h.out
   cases hF
  clear h
  cbv
  refine ⟨λh=>?_,λh=>?_⟩
  ·have hF:=m2 _ h.out
   cases hF
  clear h
  cbv
  exact ⟨i+1,by exact ao,by exact ao,⟨⟨bp,a7⟩⟩⟩
 ·cbv
  exact ⟨by exact aJ⟩
def m7:Net:=⟨[⟨1,0,0⟩],[⟨1,2,0,0,0⟩],[⟨1,0,0⟩],[3]⟩
def ld:gE:=⟨1,[⟨[2],1,-1⟩],[3]⟩
def YA (K:Int):Block:=⟨[1],1,-1,0,K⟩
def ff (K:Int):bq:=⟨[],[YA K],[],[]⟩
theorem aem:eQ m7:=by
 refine ⟨by decide,λw hw=>?_,λi g hg=>?_,λw hw=>?_,by decide,by decide,λw hw=>w7,rfl,λd hd=>?_⟩
 ·simp [m7] at hw;subst hw;exact ⟨⟨by decide,by decide,by decide,by decide,by decide⟩,by decide⟩
 ·cases i with
  | zero=>simp [m7] at hg;subst hg;exact ⟨by decide,by decide,by decide,by decide,by decide⟩
  | succ i=>simp [m7] at hg
 ·simp [m7] at hw;subst hw;exact ⟨⟨by decide,by decide,by decide,by decide,by decide⟩,.inl rfl⟩
 ·simp [m7] at hd;subst hd;decide
theorem aen:jz m7 ld:=by
 refine ⟨rfl,by decide,λi c hc=>?_,rfl,λd hd=>?_⟩
 ·cases i with
  | zero =>
   simp [ld] at hc;subst hc
   exact ⟨λs hs=>by simp at hs;subst hs;decide,.inl ⟨rfl,by decide,by decide,by decide⟩⟩
  | succ i=>simp [ld] at hc
 ·simp [ld] at hd;subst hd;decide
theorem ap7:lS m7 ld=ff 0:=by rfl
theorem adi:rR m7 ld=ff (ie [1,0]):=by
 unfold rR
 rw [ap7]
 rfl
theorem anN:tE ⟨m7,ld⟩=(ff (ie [1,0]),0):=by
 unfold tE
 rw [if_pos ⟨rfl,rfl⟩,adi]
theorem UH:Cg (ff (ie [1,0])):=by
 obtain ⟨h1,h2,_⟩:=Tp aem aen
 rw [adi] at h1 h2
 exact ⟨h1,_,h2⟩
theorem anO:kY (ff (ie [1,0]))=[ie [1,0]]:=by rfl
theorem anP:Hi (ff (ie [1,0])) (ff (ie [1,0])):=(amv UH.1).2 (by unfold yy;simp [jJ,ff])
theorem aoS:(yT (ff (ie [1,0])) [] ⟨[1],[]⟩)[0]?=some false:=by
 obtain ⟨_,r,hr⟩:=UH
 have h0:=ab0 hr [] ⟨[1],[]⟩ 0
 have h1:HJ (ff (ie [1,0])) [] ⟨[1],[]⟩ (CE (ff (ie [1,0])) [] ⟨[1],[]⟩) 0=yS 1 [Fa 1 0]:=rfl
 have h2:yS 1 [Fa 1 0]=false:=by decide
 show some (xK _ _ _ _ 0)=_
 have h3:xK (ff (ie [1,0])) [] ⟨[1],[]⟩ (CE (ff (ie [1,0])) [] ⟨[1],[]⟩) 0=CE (ff (ie [1,0])) [] ⟨[1],[]⟩ 0:=rfl
 exact congrArg some (h3.trans (h0.trans (h1.trans h2)))
def za:bq:=⟨[],[⟨[0],1,-1,-1,0⟩],[],[]⟩
theorem aoT:¬Cg za:=by
 rintro ⟨_,r,hr⟩
 have h:r 0 < r 0:=hr 0 _ rfl 0 (BI.2 rfl) (by decide) (by decide)
 exact Nq _ h
theorem W4:CK ⟨m7,ld⟩:=⟨⟨aem,by decide,by decide⟩,λ_ _=>aen⟩
theorem aoU:eQ ⟨[],[],[],[]⟩:=⟨by decide,λw hw=>by simp at hw,λi g hg=>by simp at hg,λw hw=>by simp at hw,by decide,by decide,λw _=>w7,rfl,λd hd=>by simp at hd⟩
theorem pa0:CK ⟨⟨[],[],[],[]⟩,ld⟩:=⟨⟨aoU,by decide,by decide⟩,λh=>by simp [ld] at h⟩
theorem aoV:tE ⟨⟨[],[],[],[]⟩,ld⟩=(⟨[],[],[],[]⟩,270):=by
 unfold tE
 rw [if_neg λh=>by simp [ld] at h]
theorem ahU (K:Int):AP (ff K):=⟨⟨by simp [ff],by simp [ff]⟩,by simp [ff],by simp [ff],λx hx=>by simp [ff] at hx;subst hx;simp [YA]⟩
theorem va0:AP ⟨[],[],[],[]⟩:=⟨⟨by simp,by simp⟩,by simp,by simp,λx hx=>by simp at hx⟩
theorem aur:AP za:=⟨⟨by simp [za],by simp [za]⟩,by simp [za],by simp [za],λx hx=>by simp [za] at hx;subst hx;simp⟩
@[reducible] noncomputable def ExS:Vc.Spec where
 α:=Unit
 args u:=[]
 pre u:=True
 res u:=.b (λ_=>true)
noncomputable def cEx (n m:Nat):Ctx:=eB n m [(16,Tryz.f16),(65,Tryz.f65)] [(27,J4),(74,Ku),(150,ahT),(20,Ub),(24,Po),(26,Pn),(66,ac4),(25,Uc),(67,aeh),(21,afI)]
theorem arH (n m:Nat):CB PP (cEx n m):=eD n m ⟨fo Tryz.func16,fo Tryz.func65,trivial⟩ ⟨Tq,Ua,ap6,aa6,adh,T_,ams,amJ,anI,aoQ,trivial⟩
theorem arI:cS (PP ()) 11 ExS:=by
 refine dP (arH 0 0) (fo Tryz.func11) (λa=>trivial) (λa=>trivial) ?_
 intro u hx
 clear hx
 obtain ⟨K,hK⟩:∃K,ie [1,0]=K:=⟨_,rfl⟩
 have hp:=anN
 have oE:=UH
 have vb:=anO
 have xR:=anP
 have H4:=aoS
 rw [hK] at hp oE vb xR H4
 have Mm:gM ⟨m7,ld⟩=(ff K,0):=by rw [yz,hp]
 have Fj:gM ⟨⟨[],[],[],[]⟩,ld⟩=(⟨[],[],[],[]⟩,270):=by rw [yz,aoV]
 have w1:(gM ⟨m7,ld⟩).1.ins=(ff K).ins:=by rw [Mm]
 have w2:(gM ⟨m7,ld⟩).1.blocks=(ff K).blocks:=by rw [Mm]
 have w3:(gM ⟨m7,ld⟩).1.outs=(ff K).outs:=by rw [Mm]
 have w4:(gM ⟨m7,ld⟩).1.ay=(ff K).ay:=by rw [Mm]
 have heq:VC (ff K):=⟨by simp [ff],by simp [ff],by simp [ff],by simp [ff],λx hx=>by simp [ff] at hx;subst hx;simp [YA]⟩
 have hvB:(!uU (ff K))=true->False:=λh=>by unfold uU at h;simp [oE] at h
 have ss:Lf ⟨ff K,ff K⟩:=afP oE.1 oE.1 (by simp [ff]) (by simp [ff]) (by simp [ff]) (by simp [ff])
 have hsB:(!yU (ff K) (ff K))=true->False:=λh=>by unfold yU at h;simp [xR] at h
 have pq:CI (ff K):=⟨oE.1,oE.2,by simp [ff]⟩
 have cW:(⟨[K],[K]⟩:nt Int).a.length<=1000000000000/\(⟨[K],[K]⟩:nt Int).b.length<=1000000000000:=⟨by simp,by simp⟩
 have hkB:(!jv [K] [K])=true->False:=λh=>by rw [sE.2 rfl] at h;cases h
 have k9:At ⟨m7,ld⟩ (ff K)=0:=by unfold At;rw [hp,if_pos ⟨rfl,oE,xR⟩]
 have oD:At ⟨m7,ld⟩ ⟨[],[],[],[]⟩=270:=by
  unfold At;rw [hp,if_neg λh=>by have:=h.2.2.len;simp [ff] at this]
 have aus:(!aV (At ⟨m7,ld⟩ (ff K)) 0)=true->False:=λh=>by rw [k9] at h;simp [aV] at h
 have aut:(!aV (At ⟨m7,ld⟩ ⟨[],[],[],[]⟩) 270)=true->False:=λh=>by rw [oD] at h;simp [aV] at h
 have FQ:WV ⟨ff K,[1],[0]⟩:=⟨pq,rfl,rfl,by show ([1]:List Int).length<=1000000;decide,λb y hy _=>by
  cases b with
  | zero=>exact H4
  | succ b=>simp [ff] at hy,rfl⟩
 have zw:WR ⟨false,⟨[0],[]⟩,[],[]⟩:=⟨by decide,by decide,λm hm=>by simp at hm,by decide,rfl⟩
 have hlB:uU za=false:=by unfold uU;simp [aoT]
 refine ⟨?_⟩
 cbv
 refine ⟨[1,0],⟨.inl ⟨by exact bP,rfl⟩,by decide⟩,?_⟩
 cbv
 refine ⟨⟨m7,ld⟩,⟨.inl ⟨by exact bP,rfl⟩,W4⟩,?_⟩
 cbv
 refine ⟨λh=>?_,λh=>?_⟩
 rotate_left
 ·have hF:False:=by
   have h:=h.out
   rw [show aV (gM ⟨m7,ld⟩).2 0=true by rw [Mm];rfl] at h
   cases h
  cases hF
 clear h
 cbv
 refine ⟨ff K,⟨.inl ⟨by have dG:=w1;have pe:=w2;have xZ:=w3;have x3:=w4;have bj:=hK;exact cN,rfl⟩,heq⟩,?_⟩
 cbv
 refine ⟨λh=>?_,λh=>?_⟩
 ·have hF:False:=by have h:=h.out;simp at h
  cases hF
 clear h
 cbv
 refine ⟨ff K,⟨.inl ⟨by have bj:=hK;exact cN,rfl⟩,ahU K⟩,?_⟩
 cbv
 refine ⟨λh=>?_,λh=>?_⟩
 ·have hF:=hvB h.out
  cases hF
 clear h
 cbv
 refine ⟨⟨ff K,ff K⟩,⟨.inl ⟨by have bj:=hK;exact cN,rfl⟩,ss⟩,?_⟩
 cbv
 refine ⟨λh=>?_,λh=>?_⟩
 ·have hF:=hsB h.out
  cases hF
 clear h
 cbv
 refine ⟨ff K,⟨.inl ⟨by have bj:=hK;exact cN,rfl⟩,pq⟩,?_⟩
 cbv
 refine ⟨⟨[K],[K]⟩,⟨.inl ⟨by have dG:=vb;have bj:=hK;exact cN,rfl⟩,cW⟩,?_⟩
 cbv
 refine ⟨λh=>?_,λh=>?_⟩
 ·have hF:=hkB h.out
  cases hF
 clear h
 cbv
 refine ⟨⟨⟨m7,ld⟩,ff K⟩,⟨.inl ⟨by have bj:=hK;exact cN,rfl⟩,W4,ahU K⟩,?_⟩
 cbv
 refine ⟨λh=>?_,λh=>?_⟩
 ·have hF:=aus h.out
  cases hF
 clear h
 cbv
 refine ⟨⟨⟨m7,ld⟩,⟨[],[],[],[]⟩⟩,⟨.inl ⟨by have bj:=hK;exact cN,rfl⟩,W4,va0⟩,?_⟩
 cbv
 refine ⟨λh=>?_,λh=>?_⟩
 ·have hF:=aut h.out
  cases hF
 clear h
 cbv
 refine ⟨⟨ff K,[1],[0]⟩,⟨.inl ⟨by have bj:=hK;exact cN,rfl⟩,FQ⟩,?_⟩
 cbv
 refine ⟨⟨false,⟨[0],[]⟩,[],[]⟩,⟨.inl ⟨by exact bP,rfl⟩,zw⟩,?_⟩
 cbv
 refine ⟨λh=>?_,λh=>?_⟩
 rotate_left
 ·have hF:False:=by have h:=h.out;simp at h
  cases hF
 clear h
 cbv
 refine ⟨za,⟨.inl ⟨by exact bP,rfl⟩,aur⟩,?_⟩
 cbv
 refine ⟨λh=>?_,λh=>?_⟩
 rotate_left
 ·have hF:False:=by have h:(!uU za)=false:=h.out;rw [hlB] at h;cases h
  cases hF
 clear h
 cbv
 refine ⟨⟨⟨[],[],[],[]⟩,ld⟩,⟨.inl ⟨by exact bP,rfl⟩,pa0⟩,?_⟩
 cbv
 have rn:aV (gM ⟨⟨[],[],[],[]⟩,ld⟩).2 270=true:=by rw [Fj];rfl
 exact ⟨by have jN:=rn;exact dv⟩
def ou (b:List Int) (i:Nat):Nat:=if i < b.length then ((b.getD i 0) % ((i:Int)+1)).toNat else 0
def mU (b:List Int):Nat->List Int
 | 0=>[]
 | i+1=>(mU b i).take (ou b i)++[(i:Int)]++(mU b i).drop (ou b i)
theorem Tv (b:List Int):∀(i:Nat) (x:Int),x∈mU b i↔0<=x/\x < i
 | 0,x=>by simp [mU]
 | i+1,x=>by
  have h1:x∈mU b (i+1)↔x∈mU b i\/x=i:=by
   show x∈(mU b i).take (ou b i)++[(i:Int)]++(mU b i).drop (ou b i)↔_
   have h2:x∈mU b i↔x∈(mU b i).take (ou b i)\/x∈(mU b i).drop (ou b i):=by
    rw [<-List.mem_append,List.take_append_drop]
   rw [h2]
   simp only [List.mem_append,BI]
   constructor
   ·rintro ((h|h)|h)
    ·exact .inl (.inl h)
    ·exact .inr h
    ·exact .inl (.inr h)
   ·rintro ((h|h)|h)
    ·exact .inl (.inl h)
    ·exact .inr h
    ·exact .inl (.inr h)
  rw [h1,Tv b i x]
  omega
theorem Tw (b:List Int):∀i,(mU b i).length=i
 | 0=>rfl
 | i+1=>by
  show ((mU b i).take (ou b i)++[(i:Int)]++(mU b i).drop (ou b i)).length=_
  have h:=Tw b i
  have h2:=congrArg List.length (List.take_append_drop (ou b i) (mU b i))
  simp only [fZ,nK] at h2 ⊢
  omega
theorem adj (b:List Int):∀i,(mU b i).Nodup
 | 0=>DK
 | i+1=>by
  show ((mU b i).take (ou b i)++[(i:Int)]++(mU b i).drop (ou b i)).Nodup
  have hn:=adj b i
  have hi:(i:Int)∉mU b i:=λh=>by have:=(Tv b i _).1 h;omega
  rw [<-List.take_append_drop (ou b i) (mU b i)] at hn hi
  obtain ⟨h1,h2,h3⟩:=DT.1 hn
  refine DT.2 ⟨DT.2 ⟨h1,by simp,λa ha c hc e=>?_⟩,h2,λa ha c hc e=>?_⟩
  ·simp at hc;subst hc;subst e;exact hi (List.mem_append.2 (.inl ha))
  ·rcases List.mem_append.1 ha with h|h
   ·exact h3 a h c hc e
   ·simp at h;subst h;subst e;exact hi (List.mem_append.2 (.inr hc))
theorem aoW (b:List Int) (n:Nat):ly n (mU b n):=⟨Tw b n,λx hx=>(Tv b n x).1 hx,adj b n⟩
theorem afQ:∃f:List Int->Nat->List Int,f=mU:=⟨_,rfl⟩
noncomputable def Ll:List Int->Nat->List Int:=Classical.choose afQ
theorem adk:Ll=mU:=w_ afQ
structure ahV where
 n:Nat
 b:List Int
structure W5 (x:ahV):Prop where
 n:x.n<=1000000
 b:∀z∈x.b,0<=z/\z<=255
@[reducible] noncomputable def W6:Vc.Spec where
 α:=ahV
 args x:=[.i .i64 (λ_=>(x.n:Int)),.sl 1 iF (λ_=>x.b)]
 pre x:=W5 x
 res x:=.sl 1 bJ (λ_=>Ll x.b x.n)
noncomputable def auu (n m:Nat):Ctx:=eB n m [] [] [] [] [4]
theorem aeo (n m:Nat):CB PP (auu n m):=eD n m trivial trivial
noncomputable def arJ (n m:Nat):Ctx:=eB n m [] []
theorem adl (n m:Nat):CB PP (arJ n m):=eD n m trivial trivial
theorem ap8:cS (PP ()) 19 W6:=by
 refine dP (aeo 0 0) (fo Tryz.func19) (λa=>⟨trivial,(λx=>(rN x).1),trivial⟩) (λa=>(λx=>(cM x).1)) ?_
 rintro ⟨n,b⟩ hx
 have hx:W5 ⟨n,b⟩:=hx
 have hn6:n<=1000000:=hx.n
 have hb:∀z∈b,0<=z/\z<=255:=hx.b
 obtain ⟨L,hL⟩:∃L:Nat->List Int,∀i,L i=mU b i:=⟨_,λ_=>rfl⟩
 have zo:[]=L 0:=by rw [hL];rfl
 have Ih:∀i,(L i).length=i:=λi=>by rw [hL,Tw]
 obtain ⟨R,hR⟩:∃R,Ll b n=R:=⟨_,rfl⟩
 have j9:W6.res ⟨n,b⟩=.sl 1 bJ (λ_=>R):=by rw [<-hR]
 rw [j9]
 have hRn:L n=R:=by rw [hL,<-hR,adk]
 refine ⟨?_⟩
 cbv
 refine Sat.ca (aeo 0 0) 1 5 [(.t 5,0)] (λi:Nat=>[(5,.own 0),(6,.i .i64 (λ_=>(i:Int)))]) (λi=>[(0,.dyn 3 1 bJ (λ_=>L i))]) (λi=>i<=n) (λi=>n - i) 0 (by exact ao) (by have dM:=zo;exact bH) (cJ _) ?_
 intro i hi
 have hi:i<=n:=hi
 have h0:=n0 i
 have h1:=cd (i:=i) (by omega)
 cbv
 refine ⟨λh=>?_,λh=>?_⟩
 ·have bp:i < n:=bE
  have a7:n - (i+1) < n - i:=by omega
  have hLi:=Ih i
  have iD:ou b i<=i:=by
   unfold ou
   split
   ·have:=Int.emod_lt_of_pos (b.getD i 0) (show (0:Int) < (i:Int)+1 by omega)
    omega
   ·omega
  have fin:∀a:Int,a=(ou b i:Int)->(0<=(0:Int)/\(0:Int)<=a/\a<=((L i).length:Int))/\(0<=a/\a<=((L i).length:Int)/\((L i).length:Int)<=((L i).length:Int))/\(((L i).take a.toNat).drop (0:Int).toNat).length+(((L i).take ((L i).length:Int).toNat).drop a.toNat).length<=2000000/\((L i).take a.toNat).drop (0:Int).toNat++[(i:Int)]++((L i).take ((L i).length:Int).toNat).drop a.toNat=L (i+1):=λa ha=>by
   subst ha
   refine ⟨by omega,by omega,?_,?_⟩
   ·simp only [vy,lu];omega
   ·rw [hL (i+1),oS,oS,DN (cP _)]
    show ((L i).take (ou b i)).drop 0++[(i:Int)]++(L i).drop (ou b i)=_
    rw [Sz,hL];rfl
  cbv
  refine ⟨λh=>?_,λh=>?_⟩
  ·have Iw:i < b.length:=bE
   refine (bz Iw).elim λv hv=>?_
   have hvb:=hb v (b_ hv)
   have fB:IntKind.i64.wrap v=v:=cz (by omega) (by omega)
   have wz:IntKind.i64.wrap ((i:Int)+1)=(i:Int)+1:=cz (by omega) (by omega)
   have cZ:¬IntKind.i64.wrap ((i:Int)+1)=0:=by rw [wz];omega
   obtain ⟨q,hq⟩:∃q,(IntKind.i64.wrap v).tmod (IntKind.i64.wrap ((i:Int)+1))=q:=⟨_,rfl⟩
   have YB:q=(ou b i:Int):=by
    rw [<-hq,fB,wz,w8 (by omega)]
    unfold ou
    rw [if_pos Iw,gW,hv,nM]
    have:=Int.emod_nonneg v (show ((i:Int)+1)≠0 by omega)
    omega
   obtain ⟨f1,f2,f3,f4⟩:=fin ((IntKind.i64.wrap v).tmod (IntKind.i64.wrap ((i:Int)+1))) (hq.trans YB)
   obtain ⟨A,hA⟩:∃A,((L i).take (((IntKind.i64.wrap v).tmod (IntKind.i64.wrap ((i:Int)+1)))).toNat).drop (0:Int).toNat=A:=⟨_,rfl⟩
   obtain ⟨B,hB⟩:∃B,((L i).take ((L i).length:Int).toNat).drop (((IntKind.i64.wrap v).tmod (IntKind.i64.wrap ((i:Int)+1)))).toNat=B:=⟨_,rfl⟩
   rw [hA,hB] at f3 f4
   have z1:(0+A.length)*8<=140737488355328:=by omega
   have z2:0+A.length<=9223372036854775807:=by omega
   have z3:(([]++A).length+1)*8<=140737488355328:=by rw [kQ];omega
   have z4:([]++A).length+1<=9223372036854775807:=by rw [kQ];omega
   have z5:(([]++A++[(i:Int)]).length+B.length)*8<=140737488355328:=by simp only [kQ,fZ,nK];omega
   have z6:([]++A++[(i:Int)]).length+B.length<=9223372036854775807:=by simp only [kQ,fZ,nK];omega
   have f4:[]++A++[(i:Int)]++B=L (i+1):=by rw [kQ];exact f4
   cbv
   refine ⟨v,⟨h0,hv⟩,?_⟩
   cbv
   refine ⟨⟨cZ⟩,?_⟩
   cbv
   refine ⟨⟨f1⟩,?_⟩
   cbv
   refine ⟨A,⟨by have dG:=hA;exact dv,z1,z2⟩,?_⟩
   cbv
   refine ⟨[(i:Int)],⟨by exact bP,z3,z4⟩,?_⟩
   cbv
   refine ⟨⟨f2⟩,?_⟩
   cbv
   refine ⟨B,⟨by have dG:=hB;exact dv,z5,z6⟩,?_⟩
   cbv
   refine Sat.kill 0 ?_
   refine Sat.tZ (adl 0 0) ?_
   cbv
   exact ⟨i+1,by exact ao,by have dM:=f4;exact bH,⟨⟨bp,a7⟩⟩⟩
  ·have Iw:¬i < b.length:=bE
   have YB:(0:Int)=(ou b i:Int):=by unfold ou;rw [if_neg Iw];rfl
   obtain ⟨f1,f2,f3,f4⟩:=fin (0:Int) YB
   obtain ⟨A,hA⟩:∃A,((L i).take ((0:Int)).toNat).drop (0:Int).toNat=A:=⟨_,rfl⟩
   obtain ⟨B,hB⟩:∃B,((L i).take ((L i).length:Int).toNat).drop ((0:Int)).toNat=B:=⟨_,rfl⟩
   rw [hA,hB] at f3 f4
   have z1:(0+A.length)*8<=140737488355328:=by omega
   have z2:0+A.length<=9223372036854775807:=by omega
   have z3:(([]++A).length+1)*8<=140737488355328:=by rw [kQ];omega
   have z4:([]++A).length+1<=9223372036854775807:=by rw [kQ];omega
   have z5:(([]++A++[(i:Int)]).length+B.length)*8<=140737488355328:=by simp only [kQ,fZ,nK];omega
   have z6:([]++A++[(i:Int)]).length+B.length<=9223372036854775807:=by simp only [kQ,fZ,nK];omega
   have f4:[]++A++[(i:Int)]++B=L (i+1):=by rw [kQ];exact f4
   cbv
   refine ⟨⟨f1⟩,?_⟩
   cbv
   refine ⟨A,⟨by have dG:=hA;exact dv,z1,z2⟩,?_⟩
   cbv
   refine ⟨[(i:Int)],⟨by exact bP,z3,z4⟩,?_⟩
   cbv
   refine ⟨⟨f2⟩,?_⟩
   cbv
   refine ⟨B,⟨by have dG:=hB;exact dv,z5,z6⟩,?_⟩
   cbv
   refine Sat.kill 0 ?_
   refine Sat.tZ (adl 0 0) ?_
   cbv
   exact ⟨i+1,by exact ao,by have dM:=f4;exact bH,⟨⟨bp,a7⟩⟩⟩
 have bR:i=n:=by
  have h':aS i n=false:=h.out
  have h2:¬(i:Int) < n:=by simpa [aS] using h'
  omega
 have L5:L i=R:=by rw [bR,hRn]
 clear h
 cbv
 exact ⟨by have dG:=L5;exact dv⟩
structure ahW where
 p:bq
 s:Int
 l:List Int
structure W7 (x:ahW):Prop where
 ins:x.p.ins.length<=1000000
 dH:x.p.blocks.length<=1000000
 lo:0<=x.s
 hi:x.s < x.p.sigs
 len:x.l.length=x.p.blocks.length
 Iv:∀v∈x.l,0<=v/\v<=1000000
@[reducible] noncomputable def Qe:Vc.Spec where
 α:=ahW
 args x:=[.agg (fq x.p),.i .i64 (λ_=>x.s),.sl 1 bJ (λ_=>x.l)]
 pre x:=W7 x
 res x:=.i .i64 (λ_=>nv x.p x.l x.s)
noncomputable def auv (n m:Nat):Ctx:=eB n m [] [(174,N9)]
theorem ap9 (n m:Nat):CB PP (auv n m):=eD n m trivial ⟨SX,trivial⟩
theorem aep:cS (PP ()) 79 Qe:=by
 refine dP (ap9 0 0) (fo Tryz.func79) (λa=>⟨km a.p,trivial,(λx=>(cM x).1),trivial⟩) (λa=>trivial) ?_
 rintro ⟨⟨ins,blocks,outs,ay⟩,s,l⟩ hx
 have hx:W7 ⟨⟨ins,blocks,outs,ay⟩,s,l⟩:=hx
 have gQ:ins.length<=1000000:=hx.ins
 have QV:blocks.length<=1000000:=hx.dH
 have h0:0<=s:=hx.lo
 have h1:s < (ins.length:Int)+2*(blocks.length:Int):=hx.hi
 have lW:l.length=blocks.length:=hx.len
 have x9:∀v∈l,0<=v/\v<=1000000:=hx.Iv
 clear hx
 obtain ⟨R,hR⟩:∃R,nv ⟨ins,blocks,outs,ay⟩ l s=R:=⟨_,rfl⟩
 have j9:Qe.res ⟨⟨ins,blocks,outs,ay⟩,s,l⟩=.i .i64 (λ_=>R):=by rw [<-hR]
 rw [j9]
 unfold nv at hR
 simp only at hR
 have Db:Fc ⟨ins,blocks,outs,ay⟩ s:=⟨gQ,h0,by omega⟩
 have sm:¬s < (ins.length:Int)->∃v,(0<=lT ⟨ins,blocks,outs,ay⟩ s/\l[(lT ⟨ins,blocks,outs,ay⟩ s).toNat]?=some v)/\IntKind.i64.wrap (IntKind.i64.wrap ((ins.length:Int)+IntKind.i64.wrap (2*v))+(IntKind.i64.wrap (s - (ins.length:Int))).tmod 2)=R:=λbR=>by
  have aR:cK ins.length s < l.length:=by unfold cK;omega
  have zp:lT ⟨ins,blocks,outs,ay⟩ s=(cK ins.length s:Int):=by unfold lT;rw [if_neg bR]
  obtain ⟨v,hv⟩:=bz aR
  have LP:=x9 v (b_ hv)
  refine ⟨v,⟨by rw [zp];omega,by rw [zp,oS];exact hv⟩,?_⟩
  rw [if_neg bR,gW,hv,nM] at hR
  have fB:IntKind.i64.wrap (s - (ins.length:Int))=s - (ins.length:Int):=cz (by omega) (by omega)
  rw [fB,w8 (by omega),cz (n:=2*v) (by omega) (by omega),cz (n:=(ins.length:Int)+2*v) (by omega) (by omega),cz (by omega) (by omega)]
  exact hR
 refine ⟨?_⟩
 cbv
 refine ⟨λh=>?_,λh=>?_⟩
 ·have aR:s < (ins.length:Int):=bE
  rw [if_pos aR] at hR
  cbv
  exact ⟨by exact aJ⟩
 have bR:¬s < (ins.length:Int):=bE
 obtain ⟨v,hv,hw⟩:=sm bR
 clear h sm
 cbv
 refine ⟨⟨⟨ins,blocks,outs,ay⟩,s⟩,⟨by exact bP,Db⟩,?_⟩
 cbv
 refine ⟨v,⟨hv⟩,?_⟩
 cbv
 refine ⟨⟨by decide⟩,?_⟩
 cbv
 exact ⟨by exact aJ⟩
structure ahX where
 p:bq
 l:List Int
structure W8 (x:ahX):Prop where
 ins:x.p.ins.length<=1000000
 dH:x.p.blocks.length<=1000000
 yb:x.p.ay.length<=1000000
 perm:ly x.p.blocks.length x.l
 k:∀y∈x.p.blocks,y.ins.length<=1000000
 used:∀y∈x.p.blocks,∀s∈y.ins,0<=s/\s < x.p.sigs
 ay:∀s∈x.p.ay,0<=s/\s < x.p.sigs
theorem afR:∃f:bq->List Int->bq,f=nO:=⟨_,rfl⟩
noncomputable def zb:bq->List Int->bq:=Classical.choose afR
theorem Ud:zb=nO:=w_ afR
@[reducible] noncomputable def W9:Vc.Spec where
 α:=ahX
 args x:=[.agg (fq x.p),.sl 1 bJ (λ_=>x.l)]
 pre x:=W8 x
 res x:=.agg (fq (zb x.p x.l))
def tX (p:bq) (l:List Int) (i:Nat):List Block:=((l.zip p.blocks).take i).foldl (λb u=>b.set u.1.toNat (Aq p l u.2)) (List.replicate p.blocks.length Fb)
theorem anQ {p:bq} {l:List Int} {i:Nat} {v:Int} {x:Block} (hv:l[i]?=some v) (hx:p.blocks[i]?=some x):(tX p l i).set v.toNat ⟨x.ins.map (nv p l),x.table,x.bZ,x.bf,x.key⟩=tX p l (i+1):=by
 unfold tX
 have hz:(l.zip p.blocks)[i]?=some (v,x):=Na.2 ⟨hv,hx⟩
 rw [GG _ _ hz]
 rfl
theorem aoX (p:bq) (l:List Int) (i:Nat):(tX p l i).length=p.blocks.length:=by unfold tX;rw [RT,rK]
noncomputable def cMv (n m:Nat):Ctx:=eB n m [] [(79,Qe)] [] [] [11]
theorem Pq (n m:Nat):CB PP (cMv n m):=eD n m trivial ⟨aep,trivial⟩
noncomputable def auw (n m:Nat):Ctx:=eB n m [] [(79,Qe)]
theorem ap_ (n m:Nat):CB PP (auw n m):=eD n m trivial ⟨aep,trivial⟩
theorem aqa:cS (PP ()) 18 W9:=by
 refine dP (Pq 0 0) (fo Tryz.func18) (λa=>⟨km a.p,(λx=>(cM x).1),trivial⟩) (λa=>km _) ?_
 rintro ⟨⟨ins,blocks,outs,ay⟩,l⟩ hx
 have hx:W8 ⟨⟨ins,blocks,outs,ay⟩,l⟩:=hx
 have gQ:ins.length<=1000000:=hx.ins
 have QV:blocks.length<=1000000:=hx.dH
 have Ir:ay.length<=1000000:=hx.yb
 have zF:ly blocks.length l:=hx.perm
 have lW:l.length=blocks.length:=zF.len
 have Il:∀s,0<=s->s < (⟨ins,blocks,outs,ay⟩:bq).sigs->W7 ⟨⟨ins,blocks,outs,ay⟩,s,l⟩:=λs h0 h1=>⟨gQ,QV,h0,h1,lW,λv hv=>by have:=zF.Iv v hv;omega⟩
 obtain ⟨N,hN⟩:∃N,nv ⟨ins,blocks,outs,ay⟩ l=N:=⟨_,rfl⟩
 obtain ⟨B,hB⟩:∃B:Nat->List Block,∀i,B i=tX ⟨ins,blocks,outs,ay⟩ l i:=⟨_,λ_=>rfl⟩
 have hBl:∀i,(B i).length=blocks.length:=λi=>by rw [hB,aoX]
 obtain ⟨R,hR⟩:∃R,zb ⟨ins,blocks,outs,ay⟩ l=R:=⟨_,rfl⟩
 have j9:W9.res ⟨⟨ins,blocks,outs,ay⟩,l⟩=.agg (fq R):=by rw [<-hR]
 rw [j9]
 have wQ:R=⟨ins,B blocks.length,outs,ay.map N⟩:=by
  rw [<-hR,Ud,hB,<-hN]
  unfold nO tX
  have hz:(l.zip blocks).length=blocks.length:=by rw [List.length_zip,lW,Nat.min_self]
  show _=(⟨ins,((l.zip blocks).take blocks.length).foldl _ _,outs,_⟩:bq)
  rw [<-hz,kh]
 have rE:List.replicate ((blocks.length:Int)).toNat (⟨[],0,0,0,0⟩:Block)=B 0:=by rw [hB,oS];rfl
 have eE:0<=(blocks.length:Int)/\56*(blocks.length:Int)<=281474976710656/\(blocks.length:Int)<=9223372036854775807:=by omega
 refine ⟨?_⟩
 cbv
 refine ⟨⟨eE.1,jI _,eE.2.1,eE.2.2⟩,?_⟩
 cbv
 refine Sat.ca (Pq 0 0) 4 6 [] (λi:Nat=>[(6,.i .i64 (λ_=>(i:Int)))]) (λi=>[(2,.dyn 76 5 oe (λ_=>B i))]) (λi=>i<=blocks.length) (λi=>blocks.length - i) 0 (by exact ao) (by have jW:=rE;have dM:=rE;exact bH) (cJ _) ?_
 intro i hi
 have hi:i<=blocks.length:=hi
 have h0:=n0 i
 have h1:=cd (i:=i) (by omega)
 cbv
 refine ⟨λh=>?_,λh=>?_⟩
 ·have bp:i < blocks.length:=bE
  have a7:blocks.length - (i+1) < blocks.length - i:=by omega
  refine (bz bp).elim λx kJ=>?_
  have gP:=b_ kJ
  have lY:x.ins.length<=1000000:=hx.k x gP
  have yc:=hx.used x gP
  obtain ⟨M,hM⟩:∃M:Nat->List Int,∀k,M k=(x.ins.take k).map N:=⟨_,λ_=>rfl⟩
  have Mh:[]=M 0:=by rw [hM];rfl
  cbv
  refine ⟨x,⟨h0,kJ⟩,?_⟩
  cbv
  refine Sat.ca (Pq 0 0) 6 9 [(.t 8,5)] (λk:Nat=>[(8,.own 5),(9,.i .i64 (λ_=>(k:Int)))]) (λk=>[(5,.dyn 3 1 bJ (λ_=>M k))]) (λk=>k<=x.ins.length) (λk=>x.ins.length - k) 0 (by exact ao) (by have jW:=Mh;have dM:=Mh;exact bH) (cJ _) ?_
  intro k hk
  have hk:k<=x.ins.length:=hk
  have k0:=n0 k
  have k1:=cd (i:=k) (by omega)
  cbv
  refine ⟨λh=>?_,λh=>?_⟩
  ·have cW:k < x.ins.length:=bE
   have W_:x.ins.length - (k+1) < x.ins.length - k:=by omega
   refine (bz cW).elim λs hs=>?_
   have p8:=yc s (b_ hs)
   have sZ:=Il s p8.1 p8.2
   obtain ⟨t,ht⟩:∃t,nv ⟨ins,blocks,outs,ay⟩ l s=t:=⟨_,rfl⟩
   have cG:M k++[t]=M (k+1):=by rw [hM,hM,take_one hs,Nn,<-ht,hN];rfl
   have hMl:(M k).length=k:=by rw [hM,oT,lu];omega
   have z1:((M k).length+1)*8<=140737488355328:=by omega
   have z2:(M k).length+1<=9223372036854775807:=by omega
   cbv
   refine ⟨s,⟨k0,hs⟩,?_⟩
   cbv
   refine ⟨⟨⟨ins,blocks,outs,ay⟩,s,l⟩,⟨by exact bP,sZ⟩,?_⟩
   cbv
   refine ⟨[t],⟨by have bj:=ht;exact cN,z1,z2⟩,?_⟩
   cbv
   exact ⟨k+1,by exact ao,by have dM:=cG;exact bH,⟨⟨cW,W_⟩⟩⟩
  have YC:k=x.ins.length:=by
   have h':aS k x.ins.length=false:=h.out
   have h2:¬(k:Int) < x.ins.length:=by simpa [aS] using h'
   omega
  obtain ⟨J,hJ⟩:∃J,M k=J:=⟨_,rfl⟩
  have Xu:J=x.ins.map N:=by rw [<-hJ,hM,YC,kh]
  refine (bz (l:=l) (i:=i) (by omega)).elim λv hv=>?_
  have LP:=zF.Iv v (b_ hv)
  have C4:0<=v/\v.toNat < (B i).length:=by rw [hBl];omega
  refine (bz C4.2).elim λu hu=>?_
  have bw:(B i).set v.toNat ⟨J,x.table,x.bZ,x.bf,x.key⟩=B (i+1):=by rw [hB,hB,Xu,<-hN];exact anQ (p:=⟨ins,blocks,outs,ay⟩) hv kJ
  clear h k0 k1 hk
  cbv
  refine Sat.freeze 5 rfl rfl ?_
  refine Sat.tZ (ap_ 0 0) ?_
  cbv
  refine ⟨v,⟨h0,hv⟩,?_⟩
  cbv
  refine ⟨⟨C4⟩,?_⟩
  cbv
  refine ⟨(u,⟨J,x.table,x.bZ,x.bf,x.key⟩),⟨hu,rfl,by have dG:=hJ;exact cN⟩,?_⟩
  cbv
  exact ⟨i+1,by exact ao,by have dM:=bw;exact bH,⟨⟨bp,a7⟩⟩⟩
 have bR:i=blocks.length:=by
  have h':aS i blocks.length=false:=h.out
  have h2:¬(i:Int) < blocks.length:=by simpa [aS] using h'
  omega
 clear h h0 h1 hi
 obtain ⟨D,hD⟩:∃D:Nat->List Int,∀k,D k=(ay.take k).map N:=⟨_,λ_=>rfl⟩
 have hD0:[]=D 0:=by rw [hD];rfl
 cbv
 refine Sat.iz 3 3 3 1 nN cM rfl rfl ?_
 cbv
 refine Sat.ca (Pq 0 0) 5 6 [(.c 3 3,4)] (λk:Nat=>[(10,.i .i64 (λ_=>(k:Int)))]) (λk=>[(4,.dyn 3 1 bJ (λ_=>D k))]) (λk=>k<=ay.length) (λk=>ay.length - k) 0 (by exact ao) (by have jW:=hD0;have dM:=hD0;exact bH) (cJ _) ?_
 intro k hk
 have hk:k<=ay.length:=hk
 have k0:=n0 k
 have k1:=cd (i:=k) (by omega)
 cbv
 refine ⟨λh=>?_,λh=>?_⟩
 ·have cW:k < ay.length:=bE
  have W_:ay.length - (k+1) < ay.length - k:=by omega
  refine (bz cW).elim λs hs=>?_
  have p8:=hx.ay s (b_ hs)
  have sZ:=Il s p8.1 p8.2
  obtain ⟨t,ht⟩:∃t,nv ⟨ins,blocks,outs,ay⟩ l s=t:=⟨_,rfl⟩
  have cG:D k++[t]=D (k+1):=by rw [hD,hD,take_one hs,Nn,<-ht,hN];rfl
  have hDl:(D k).length=k:=by rw [hD,oT,lu];omega
  have z1:((D k).length+1)*8<=140737488355328:=by omega
  have z2:(D k).length+1<=9223372036854775807:=by omega
  cbv
  refine ⟨s,⟨k0,hs⟩,?_⟩
  cbv
  refine ⟨⟨⟨ins,blocks,outs,ay⟩,s,l⟩,⟨by exact bP,sZ⟩,?_⟩
  cbv
  refine ⟨[t],⟨by have bj:=ht;exact cN,z1,z2⟩,?_⟩
  cbv
  exact ⟨k+1,by exact ao,by have dM:=cG;exact bH,⟨⟨cW,W_⟩⟩⟩
 have YC:k=ay.length:=by
  have h':aS k ay.length=false:=h.out
  have h2:¬(k:Int) < ay.length:=by simpa [aS] using h'
  omega
 have r1:ins=R.ins:=by rw [wQ]
 have r2:B i=R.blocks:=by rw [wQ,bR]
 have r3:outs=R.outs:=by rw [wQ]
 have r4:D k=R.ay:=by rw [wQ,hD,YC,kh]
 clear wQ h k0 k1 hk
 cbv
 exact ⟨by have dG:=r1;have pe:=r2;have xZ:=r3;have x3:=r4;exact dv⟩
end Go.Proofs.Pk
