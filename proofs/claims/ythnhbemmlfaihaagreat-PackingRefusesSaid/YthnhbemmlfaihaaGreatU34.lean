import Derived.Test.YthnhbemmlfaihaaGreatU7
import Derived.Test.YthnhbemmlfaihaaGreatU27
import Derived.Test.YthnhbemmlfaihaaGreatU28
import Derived.Test.YthnhbemmlfaihaaGreatU29
import Derived.Test.YthnhbemmlfaihaaGreatU30
import Derived.Test.YthnhbemmlfaihaaGreatU31
import Derived.Test.YthnhbemmlfaihaaGreatU32
import Derived.Test.YthnhbemmlfaihaaGreatU33
set_option linter.unusedVariables false
set_option linter.unusedSimpArgs false
set_option maxRecDepth 10000
set_option maxHeartbeats 64000000
namespace Go.Proofs.Pk
open Go Go.Vc
theorem anE {P:Unit->Program} {f:FuncId} {S:fK} {T:Vc.Spec} {fn:Func} (I:eG P f S) (F:n5 (P ()) f fn) (c:T.α->S.α) (ha:∀a,T.args a=S.args (c a)) (hp:∀a,T.pre a->S.pre (c a)) (hr:∀a y,T.pre a->S.post (c a) y->S.res (c a) y=T.res a) (Yt:∀a,LF (T.res a)) (nr:T.fr=false):cZ (P ()) f T where
 fn:=⟨fn,F⟩
 lf:=λa=>by rw [ha];exact I.lf _
 lr:=Yt
 fresh:=λh=>by rw [nr] at h;cases h
 run:=λa fh H F' w vals hH hF n6=>by
  rw [ha] at n6
  refine (I.run (c a) (hp a fh) H F' w vals hH hF n6).mono ?_
  rintro e w' ⟨y,v,H',h1,h2,h3,h4,h5,h6,h7,h8⟩
  rw [hr a y fh h1] at h7
  exact ⟨v,H',h2,h3,h4,h5,h6,h7,h8⟩
open Classical in
noncomputable def vj (p:bC):Bool:=decide (Cy p)
@[reducible] noncomputable def US:Vc.Spec where
 α:=bC
 args x:=[.agg (fH x)]
 pre x:=uk x
 res x:=.b (λ_=>vj x)
theorem abP:cZ (PP ()) 20 US:=anE aos (Ut Tryz.func20 (by kernel_rfl)) (λa=>a) (λa=>rfl) (λa h=>h) (λa y _ hy=>by
 have e:vj a=y:=by
  unfold vj
  have hi:=hy.iff
  cases y<;>simp at hi ⊢<;>exact hi
 show SV.b (λ_=>y)=SV.b (λ_=>vj a)
 rw [e]) (λa=>trivial) rfl
open Classical in
noncomputable def tX (y:um) (p:bC):Int:=if (tZ y).2=0/\Cy p/\EV (tZ y).1 p then 0 else 270
structure agJ where
 y:um
 p:bC
structure Wm (z:agJ):Prop where
 pa:C1 z.y
 v:uk z.p
theorem agK {p q:bC} (hp:Shape p) (hq:Shape q) (h1:p.ins.length<=1000000) (h2:p.outs.length<=1000000) (h3:q.ins.length<=1000000) (h4:q.outs.length<=1000000):LQ ⟨p,q⟩:=by
 have RY:=hp.dK
 have hqb:=hq.dK
 exact ⟨h1,h2,by show p.blocks.length<=1000000;omega,by show p.ay.length<=1000000;rw [hp.p8];exact h2,λx hx=>by have:=(hp.formed x hx).k;omega,
  h3,h4,by show q.blocks.length<=1000000;omega,by show q.ay.length<=1000000;rw [hq.p8];exact h4,λx hx=>by have:=(hq.formed x hx).k;omega,
  λx hx s hs=>⟨(hq.used x hx s hs).lo,(hq.used x hx s hs).hi⟩,λs hs=>⟨(hq.ay s hs).lo,(hq.ay s hs).hi⟩⟩
theorem aaE {n:Net} {m:gD} (hn:eX n):(qM n m).ins.length<=600/\(qM n m).outs.length<=n.outs.length:=by
 have h1:(others n.ins).length<=n.ins.length:=Am _ _
 have h2:(others n.outs).length<=n.outs.length:=Am _ _
 have:=hn.pF
 exact ⟨by show (others n.ins).length<=600;omega,h2⟩
@[reducible] noncomputable def O1:Vc.Spec where
 α:=agJ
 args z:=[.agg [.sl 3 dm (λ_=>z.y.n.ins),.sl 5 dD (λ_=>z.y.n.gM),.sl 3 dm (λ_=>z.y.n.outs),.sl 1 bM (λ_=>z.y.n.ay)],.agg [.i .i64 (λ_=>z.y.m.n),.sl 3 rL (λ_=>z.y.m.cells),.sl 1 bM (λ_=>z.y.m.ay)],.agg (fH z.p)]
 pre z:=Wm z
 res z:=.i .i64 (λ_=>tX z.y z.p)
noncomputable def avq (n m:Nat):Ctx:=eu n m [] [(74,KY),(20,US),(24,Qh)]
theorem aq1 (n m:Nat):CB PP (avq n m):=ez n m trivial ⟨UR,abP,aec,trivial⟩
theorem abQ:cZ (PP ()) 25 O1:=by
 refine dT (aq1 0 0) (fo Tryz.func25) (λa=>⟨⟨(λx=>(gS x).1),(λx=>(eO x).1),(λx=>(gS x).1),(λx=>(cQ x).1),trivial⟩,⟨trivial,(λx=>(Aw x).1),(λx=>(cQ x).1),trivial⟩,kD a.p,trivial⟩) (λa=>trivial) ?_
 rintro ⟨⟨⟨ins,gs,outs,dr⟩,⟨mn,mc,md⟩⟩,⟨pins,dQ,fq,fg⟩⟩ hx
 have hx:Wm ⟨⟨⟨ins,gs,outs,dr⟩,⟨mn,mc,md⟩⟩,⟨pins,dQ,fq,fg⟩⟩:=hx
 have Dv:=hx.pa
 have hv:=hx.v
 simp only at Dv hv
 have j6:eX ⟨ins,gs,outs,dr⟩:=Dv.pb.Bv
 obtain ⟨R,hR⟩:∃R,tX ⟨⟨ins,gs,outs,dr⟩,⟨mn,mc,md⟩⟩ ⟨pins,dQ,fq,fg⟩=R:=⟨_,rfl⟩
 have mS:O1.res ⟨⟨⟨ins,gs,outs,dr⟩,⟨mn,mc,md⟩⟩,⟨pins,dQ,fq,fg⟩⟩=.i .i64 (λ_=>R):=by rw [<-hR]
 rw [mS]
 unfold tX at hR
 obtain ⟨K,hK⟩:∃K,tZ ⟨⟨ins,gs,outs,dr⟩,⟨mn,mc,md⟩⟩=K:=⟨_,rfl⟩
 rw [hK] at hR
 have XS:K.2=0->Shape K.1/\K.1.ins.length<=1000000/\K.1.outs.length<=1000000:=λh2=>by
  rw [<-hK] at h2 ⊢
  unfold tZ at h2 ⊢
  by_cases hc:((⟨⟨ins,gs,outs,dr⟩,⟨mn,mc,md⟩⟩:um).n.ins.length:Int)=(⟨⟨ins,gs,outs,dr⟩,⟨mn,mc,md⟩⟩:um).m.n/\(⟨⟨ins,gs,outs,dr⟩,⟨mn,mc,md⟩⟩:um).n.outs.length=(⟨⟨ins,gs,outs,dr⟩,⟨mn,mc,md⟩⟩:um).m.ay.length
  ·rw [if_pos hc]
   have hs:=aaE (m:=⟨mn,mc,md⟩) j6
   have ho:outs.length<=100000:=Dv.pb.outs
   have h2:(qM ⟨ins,gs,outs,dr⟩ ⟨mn,mc,md⟩).outs.length<=outs.length:=hs.2
   exact ⟨(Ue j6 (Dv.map hc.1 hc.2)).1,by have:=hs.1;show (qM ⟨ins,gs,outs,dr⟩ ⟨mn,mc,md⟩).ins.length<=1000000;omega,by show (qM ⟨ins,gs,outs,dr⟩ ⟨mn,mc,md⟩).outs.length<=1000000;omega⟩
  ·rw [if_neg hc] at h2
   cases h2
 have w1:(iG ⟨⟨ins,gs,outs,dr⟩,⟨mn,mc,md⟩⟩).1.ins=K.1.ins:=by rw [yN,hK]
 have w2:(iG ⟨⟨ins,gs,outs,dr⟩,⟨mn,mc,md⟩⟩).1.blocks=K.1.blocks:=by rw [yN,hK]
 have w3:(iG ⟨⟨ins,gs,outs,dr⟩,⟨mn,mc,md⟩⟩).1.outs=K.1.outs:=by rw [yN,hK]
 have w4:(iG ⟨⟨ins,gs,outs,dr⟩,⟨mn,mc,md⟩⟩).1.ay=K.1.ay:=by rw [yN,hK]
 obtain ⟨W,E⟩:=K
 obtain ⟨wi,wb,wo,wd⟩:=W
 simp only at XS w1 w2 w3 w4 hR
 refine ⟨?_⟩
 cbv
 refine ⟨⟨⟨ins,gs,outs,dr⟩,⟨mn,mc,md⟩⟩,⟨by exact bQ,Dv⟩,?_⟩
 cbv
 refine ⟨λh=>?_,λh=>?_⟩
 ·have e:270=R:=by
   have h':(!aV (iG ⟨⟨ins,gs,outs,dr⟩,⟨mn,mc,md⟩⟩).2 0)=true:=h.out
   rw [yN,hK] at h'
   have h2:¬E=0:=by simpa [aV] using h'
   rw [<-hR,if_neg λhc=>h2 hc.1]
  cbv
  exact ⟨by exact aK⟩
 have hE:E=0:=by
  have h':(!aV (iG ⟨⟨ins,gs,outs,dr⟩,⟨mn,mc,md⟩⟩).2 0)=false:=h.out
  rw [yN,hK] at h'
  simpa [aV] using h'
 have Zo:=XS hE
 clear h XS
 cbv
 refine ⟨⟨pins,dQ,fq,fg⟩,⟨by exact bQ,hv⟩,?_⟩
 cbv
 refine ⟨λh=>?_,λh=>?_⟩
 ·have e:270=R:=by
   have h':(!vj ⟨pins,dQ,fq,fg⟩)=true:=h.out
   rw [<-hR,if_neg λhc=>by
    unfold vj at h'
    simp [hc.2.1] at h']
  cbv
  exact ⟨by exact aK⟩
 have hvo:Cy ⟨pins,dQ,fq,fg⟩:=by
  have h':(!vj ⟨pins,dQ,fq,fg⟩)=false:=h.out
  unfold vj at h'
  simpa using h'
 have nQ:LQ ⟨⟨wi,wb,wo,wd⟩,⟨pins,dQ,fq,fg⟩⟩:=agK Zo.1 hvo.1 Zo.2.1 Zo.2.2 hv.small.ins hv.outs
 clear h
 cbv
 refine ⟨⟨⟨wi,wb,wo,wd⟩,⟨pins,dQ,fq,fg⟩⟩,⟨by have dJ:=w1;have rU:=w2;have Da:=w3;have Db:=w4;exact cP,nQ⟩,?_⟩
 cbv
 refine ⟨λh=>?_,λh=>?_⟩
 ·have e:270=R:=by
   have h':(!zf ⟨wi,wb,wo,wd⟩ ⟨pins,dQ,fq,fg⟩)=true:=h.out
   rw [<-hR,if_neg λhc=>by
    unfold zf at h'
    simp [hc.2.2] at h']
  cbv
  exact ⟨by exact aK⟩
 ·have e:0=R:=by
   have h':(!zf ⟨wi,wb,wo,wd⟩ ⟨pins,dQ,fq,fg⟩)=false:=h.out
   unfold zf at h'
   rw [<-hR,if_pos ⟨hE,hvo,by simpa using h'⟩]
  cbv
  exact ⟨by exact aK⟩
structure Wn (p:bC):Prop where
 ins:p.ins.length<=1000000
 outs:p.outs.length<=1000000
 ay:p.ay.length<=1000000
 blocks:p.blocks.length<=1000000
 k:∀x∈p.blocks,x.ins.length<=1000000
@[reducible] noncomputable def aiO:Vc.Spec where
 α:=bC
 args p:=[.agg (fH p),.agg (fH p)]
 pre p:=Wn p
 res p:=.b (λ_=>true)
noncomputable def avr (n m:Nat):Ctx:=eu n m [] [(180,VP),(217,aeS)]
theorem afe (n m:Nat):CB PP (avr n m):=ez n m trivial ⟨adW,aok,trivial⟩
theorem aq2:cZ (PP ()) 150 aiO:=by
 refine dT (afe 0 0) (fo Tryz.func150) (λa=>⟨kD a,kD a,trivial⟩) (λa=>trivial) ?_
 rintro ⟨ins,blocks,outs,ay⟩ hx
 have hx:Wn ⟨ins,blocks,outs,ay⟩:=hx
 have hb6:blocks.length<=1000000:=hx.blocks
 have w1:(⟨ins,ins⟩:nK bU).a.length<=1000000000000/\(⟨ins,ins⟩:nK bU).b.length<=1000000000000:=by have:ins.length<=1000000:=hx.ins;exact ⟨by show ins.length<=_;omega,by show ins.length<=_;omega⟩
 have w2:(⟨outs,outs⟩:nK bU).a.length<=1000000000000/\(⟨outs,outs⟩:nK bU).b.length<=1000000000000:=by have:outs.length<=1000000:=hx.outs;exact ⟨by show outs.length<=_;omega,by show outs.length<=_;omega⟩
 have w3:(⟨ay,ay⟩:nK Int).a.length<=1000000000000/\(⟨ay,ay⟩:nK Int).b.length<=1000000000000:=by have:ay.length<=1000000:=hx.ay;exact ⟨by show ay.length<=_;omega,by show ay.length<=_;omega⟩
 have n1:(!jL ins ins)=true->False:=λh=>by rw [sY.2 rfl] at h;cases h
 have n2:(!jL outs outs)=true->False:=λh=>by rw [sY.2 rfl] at h;cases h
 have n3:(!jL ay ay)=true->False:=λh=>by rw [sY.2 rfl] at h;cases h
 have n4:(!aV (blocks.length:Int) (blocks.length:Int))=true->False:=λh=>by simp [aV] at h
 refine ⟨?_⟩
 cbv
 refine ⟨⟨ins,ins⟩,⟨by exact bQ,w1⟩,?_⟩
 cbv
 refine ⟨λh=>?_,λh=>?_⟩
 ·have hF:=n1 h.out
  cases hF
 clear h
 cbv
 refine ⟨⟨outs,outs⟩,⟨by exact bQ,w2⟩,?_⟩
 cbv
 refine ⟨λh=>?_,λh=>?_⟩
 ·have hF:=n2 h.out
  cases hF
 clear h
 cbv
 refine ⟨⟨ay,ay⟩,⟨by exact bQ,w3⟩,?_⟩
 cbv
 refine ⟨λh=>?_,λh=>?_⟩
 ·have hF:=n3 h.out
  cases hF
 clear h
 cbv
 refine ⟨λh=>?_,λh=>?_⟩
 ·have hF:=n4 h.out
  cases hF
 clear h
 cbv
 refine Sat.cf (afe 0 0) 2 5 [] (λi:Nat=>[(5,.i .i64 (λ_=>(i:Int)))]) (λi=>[]) (λi=>i<=blocks.length) (λi=>blocks.length - i) 0 (by exact ao) (by exact ao) (cN _) ?_
 intro i hi
 have hi:i<=blocks.length:=hi
 have h0:=n0 i
 have h1:=cq (i:=i) (by omega)
 cbv
 refine ⟨λh=>?_,λh=>?_⟩
 ·have bt:i < blocks.length:=bI
  have bh:blocks.length - (i+1) < blocks.length - i:=by omega
  refine (bD bt).elim λx ku=>?_
  have w4:(⟨x.ins,x.ins⟩:nK Int).a.length<=1000000000000/\(⟨x.ins,x.ins⟩:nK Int).b.length<=1000000000000:=by have:x.ins.length<=1000000:=hx.k x (cb ku);exact ⟨by show x.ins.length<=_;omega,by show x.ins.length<=_;omega⟩
  have m1:(!jL x.ins x.ins)=true->False:=λh=>by rw [sY.2 rfl] at h;cases h
  have m2:∀v:Int,(!aV v v)=true->False:=λv h=>by simp [aV] at h
  cbv
  refine ⟨x,⟨h0,ku⟩,?_⟩
  cbv
  refine ⟨x,⟨h0,ku⟩,?_⟩
  cbv
  refine ⟨⟨x.ins,x.ins⟩,⟨by exact bQ,w4⟩,?_⟩
  cbv
  refine ⟨λh=>?_,λh=>?_⟩
  ·have hF:=m1 h.out
   cases hF
  clear h
  cbv
  refine ⟨λh=>?_,λh=>?_⟩
  ·have hF:=m2 _ h.out
   cases hF
  clear h
  cbv
  refine ⟨λh=>?_,λh=>?_⟩
  ·have hF:=m2 _ h.out
   cases hF
  clear h
  cbv
  refine ⟨λh=>?_,λh=>?_⟩
  ·have hF:=m2 _ h.out
   cases hF
  clear h
  cbv
  refine ⟨λh=>?_,λh=>?_⟩
  ·have hF:=m2 _ h.out
   cases hF
  clear h
  cbv
  exact ⟨i+1,by exact ao,by exact ao,⟨⟨bt,bh⟩⟩⟩
 ·cbv
  exact ⟨by exact aK⟩
def ny:Net:=⟨[⟨1,0,0⟩],[⟨1,2,0,0,0⟩],[⟨1,0,0⟩],[3]⟩
def lD:gD:=⟨1,[⟨[2],1,-1⟩],[3]⟩
def Zp (K:Int):Block:=⟨[1],1,-1,0,K⟩
def fu (K:Int):bC:=⟨[],[Zp K],[],[]⟩
theorem aff:eX ny:=by
 refine ⟨by decide,λw hw=>?_,λi g hg=>?_,λw hw=>?_,by decide,by decide,λw hw=>xu,rfl,λd hd=>?_⟩
 ·simp [ny] at hw;subst hw;exact ⟨⟨by decide,by decide,by decide,by decide,by decide⟩,by decide⟩
 ·cases i with
  | zero=>simp [ny] at hg;subst hg;exact ⟨by decide,by decide,by decide,by decide,by decide⟩
  | succ i=>simp [ny] at hg
 ·simp [ny] at hw;subst hw;exact ⟨⟨by decide,by decide,by decide,by decide,by decide⟩,.inl rfl⟩
 ·simp [ny] at hd;subst hd;decide
theorem afg:jG ny lD:=by
 refine ⟨rfl,by decide,λi c hc=>?_,rfl,λd hd=>?_⟩
 ·cases i with
  | zero =>
   simp [lD] at hc;subst hc
   exact ⟨λs hs=>by simp at hs;subst hs;decide,.inl ⟨rfl,by decide,by decide,by decide⟩⟩
  | succ i=>simp [lD] at hc
 ·simp [lD] at hd;subst hd;decide
theorem aq3:l9 ny lD=fu 0:=by rfl
theorem aed:qM ny lD=fu (iP [1,0]):=by
 unfold qM
 rw [aq3]
 rfl
theorem aoH:tZ ⟨ny,lD⟩=(fu (iP [1,0]),0):=by
 unfold tZ
 rw [if_pos ⟨rfl,rfl⟩,aed]
theorem Vp:Cy (fu (iP [1,0])):=by
 obtain ⟨h1,h2,_⟩:=Ue aff afg
 rw [aed] at h1 h2
 exact ⟨h1,_,h2⟩
theorem aoI:pq (fu (iP [1,0]))=[iP [1,0]]:=by rfl
theorem aoJ:EV (fu (iP [1,0])) (fu (iP [1,0])):=(anr Vp.1).2 (by unfold xD;simp [gE,fu])
theorem apO:(zd (fu (iP [1,0])) [] ⟨[1],[]⟩)[0]?=some false:=by
 obtain ⟨_,r,hr⟩:=Vp
 have h0:=acQ hr [] ⟨[1],[]⟩ 0
 have h1:Ib (fu (iP [1,0])) [] ⟨[1],[]⟩ (CW (fu (iP [1,0])) [] ⟨[1],[]⟩) 0=zc 1 [Ft 1 0]:=rfl
 have h2:zc 1 [Ft 1 0]=false:=by decide
 show some (x5 _ _ _ _ 0)=_
 have h3:x5 (fu (iP [1,0])) [] ⟨[1],[]⟩ (CW (fu (iP [1,0])) [] ⟨[1],[]⟩) 0=CW (fu (iP [1,0])) [] ⟨[1],[]⟩ 0:=rfl
 exact congrArg some (h3.trans (h0.trans (h1.trans h2)))
def zu:bC:=⟨[],[⟨[0],1,-1,-1,0⟩],[],[]⟩
theorem apP:¬Cy zu:=by
 rintro ⟨_,r,hr⟩
 have h:r 0 < r 0:=hr 0 _ rfl 0 (Ed.2 rfl) (by decide) (by decide)
 exact Oc _ h
theorem XT:C1 ⟨ny,lD⟩:=⟨⟨aff,by decide,by decide⟩,λ_ _=>afg⟩
theorem apQ:eX ⟨[],[],[],[]⟩:=⟨by decide,λw hw=>by simp at hw,λi g hg=>by simp at hg,λw hw=>by simp at hw,by decide,by decide,λw _=>xu,rfl,λd hd=>by simp at hd⟩
theorem pa0:C1 ⟨⟨[],[],[],[]⟩,lD⟩:=⟨⟨apQ,by decide,by decide⟩,λh=>by simp [lD] at h⟩
theorem apR:tZ ⟨⟨[],[],[],[]⟩,lD⟩=(⟨[],[],[],[]⟩,270):=by
 unfold tZ
 rw [if_neg λh=>by simp [lD] at h]
theorem aiP (K:Int):uk (fu K):=⟨⟨by simp [fu],by simp [fu]⟩,by simp [fu],by simp [fu],λx hx=>by simp [fu] at hx;subst hx;simp [Zp]⟩
theorem va0:uk ⟨[],[],[],[]⟩:=⟨⟨by simp,by simp⟩,by simp,by simp,λx hx=>by simp at hx⟩
theorem avs:uk zu:=⟨⟨by simp [zu],by simp [zu]⟩,by simp [zu],by simp [zu],λx hx=>by simp [zu] at hx;subst hx;simp⟩
@[reducible] noncomputable def Zq:Vc.Spec where
 α:=Unit
 args u:=[]
 pre u:=True
 res u:=.b (λ_=>true)
noncomputable def cEx (n m:Nat):Ctx:=eu n m [(16,Tryz.f16),(65,Tryz.f65)] [(27,Kv),(74,KY),(150,aiO),(20,US),(24,Qh),(26,Qg),(66,adX),(25,O1),(67,afa),(21,agE)]
theorem asL (n m:Nat):CB PP (cEx n m):=ez n m ⟨fo Tryz.func16,fo Tryz.func65,trivial⟩ ⟨Uf,UR,aq2,abP,aec,UQ,ann,abQ,aoC,apM,trivial⟩
theorem agL:cZ (PP ()) 11 Zq:=by
 refine dT (asL 0 0) (fo Tryz.func11) (λa=>trivial) (λa=>trivial) ?_
 intro u hx
 clear hx
 obtain ⟨K,hK⟩:∃K,iP [1,0]=K:=⟨_,rfl⟩
 have hp:=aoH
 have oT:=Vp
 have vA:=aoI
 have yc:=aoJ
 have Iy:=apO
 rw [hK] at hp oT vA yc Iy
 have MR:iG ⟨ny,lD⟩=(fu K,0):=by rw [yN,hp]
 have FC:iG ⟨⟨[],[],[],[]⟩,lD⟩=(⟨[],[],[],[]⟩,270):=by rw [yN,apR]
 have w1:(iG ⟨ny,lD⟩).1.ins=(fu K).ins:=by rw [MR]
 have w2:(iG ⟨ny,lD⟩).1.blocks=(fu K).blocks:=by rw [MR]
 have w3:(iG ⟨ny,lD⟩).1.outs=(fu K).outs:=by rw [MR]
 have w4:(iG ⟨ny,lD⟩).1.ay=(fu K).ay:=by rw [MR]
 have heq:Wn (fu K):=⟨by simp [fu],by simp [fu],by simp [fu],by simp [fu],λx hx=>by simp [fu] at hx;subst hx;simp [Zp]⟩
 have hvB:(!vj (fu K))=true->False:=λh=>by unfold vj at h;simp [oT] at h
 have nQ:LQ ⟨fu K,fu K⟩:=agK oT.1 oT.1 (by simp [fu]) (by simp [fu]) (by simp [fu]) (by simp [fu])
 have hsB:(!zf (fu K) (fu K))=true->False:=λh=>by unfold zf at h;simp [yc] at h
 have rh:Fw (fu K):=⟨oT.1,oT.2,by simp [fu]⟩
 have dq:(⟨[K],[K]⟩:nK Int).a.length<=1000000000000/\(⟨[K],[K]⟩:nK Int).b.length<=1000000000000:=⟨by simp,by simp⟩
 have hkB:(!jL [K] [K])=true->False:=λh=>by rw [sY.2 rfl] at h;cases h
 have lz:tX ⟨ny,lD⟩ (fu K)=0:=by unfold tX;rw [hp,if_pos ⟨rfl,oT,yc⟩]
 have oS:tX ⟨ny,lD⟩ ⟨[],[],[],[]⟩=270:=by
  unfold tX;rw [hp,if_neg λh=>by have:=h.2.2.len;simp [fu] at this]
 have avt:(!aV (tX ⟨ny,lD⟩ (fu K)) 0)=true->False:=λh=>by rw [lz] at h;simp [aV] at h
 have avu:(!aV (tX ⟨ny,lD⟩ ⟨[],[],[],[]⟩) 270)=true->False:=λh=>by rw [oS] at h;simp [aV] at h
 have F9:XL ⟨fu K,[1],[0]⟩:=⟨rh,rfl,rfl,by show ([1]:List Int).length<=1000000;decide,λb y hy _=>by
  cases b with
  | zero=>exact Iy
  | succ b=>simp [fu] at hy,rfl⟩
 have zM:XI ⟨false,⟨[0],[]⟩,[],[]⟩:=⟨by decide,by decide,λm hm=>by simp at hm,by decide,rfl⟩
 have hlB:vj zu=false:=by unfold vj;simp [apP]
 refine ⟨?_⟩
 cbv
 refine ⟨[1,0],⟨.inl ⟨by exact bQ,rfl⟩,by decide⟩,?_⟩
 cbv
 refine ⟨⟨ny,lD⟩,⟨.inl ⟨by exact bQ,rfl⟩,XT⟩,?_⟩
 cbv
 refine ⟨λh=>?_,λh=>?_⟩
 rotate_left
 ·have hF:False:=by
   have h:=h.out
   rw [show aV (iG ⟨ny,lD⟩).2 0=true by rw [MR];rfl] at h
   cases h
  cases hF
 clear h
 cbv
 refine ⟨fu K,⟨.inl ⟨by have dJ:=w1;have rU:=w2;have Da:=w3;have Db:=w4;have bg:=hK;exact cP,rfl⟩,heq⟩,?_⟩
 cbv
 refine ⟨λh=>?_,λh=>?_⟩
 ·have hF:False:=by have h:=h.out;simp at h
  cases hF
 clear h
 cbv
 refine ⟨fu K,⟨.inl ⟨by have bg:=hK;exact cP,rfl⟩,aiP K⟩,?_⟩
 cbv
 refine ⟨λh=>?_,λh=>?_⟩
 ·have hF:=hvB h.out
  cases hF
 clear h
 cbv
 refine ⟨⟨fu K,fu K⟩,⟨.inl ⟨by have bg:=hK;exact cP,rfl⟩,nQ⟩,?_⟩
 cbv
 refine ⟨λh=>?_,λh=>?_⟩
 ·have hF:=hsB h.out
  cases hF
 clear h
 cbv
 refine ⟨fu K,⟨.inl ⟨by have bg:=hK;exact cP,rfl⟩,rh⟩,?_⟩
 cbv
 refine ⟨⟨[K],[K]⟩,⟨.inl ⟨by have dJ:=vA;have bg:=hK;exact cP,rfl⟩,dq⟩,?_⟩
 cbv
 refine ⟨λh=>?_,λh=>?_⟩
 ·have hF:=hkB h.out
  cases hF
 clear h
 cbv
 refine ⟨⟨⟨ny,lD⟩,fu K⟩,⟨.inl ⟨by have bg:=hK;exact cP,rfl⟩,XT,aiP K⟩,?_⟩
 cbv
 refine ⟨λh=>?_,λh=>?_⟩
 ·have hF:=avt h.out
  cases hF
 clear h
 cbv
 refine ⟨⟨⟨ny,lD⟩,⟨[],[],[],[]⟩⟩,⟨.inl ⟨by have bg:=hK;exact cP,rfl⟩,XT,va0⟩,?_⟩
 cbv
 refine ⟨λh=>?_,λh=>?_⟩
 ·have hF:=avu h.out
  cases hF
 clear h
 cbv
 refine ⟨⟨fu K,[1],[0]⟩,⟨.inl ⟨by have bg:=hK;exact cP,rfl⟩,F9⟩,?_⟩
 cbv
 refine ⟨⟨false,⟨[0],[]⟩,[],[]⟩,⟨.inl ⟨by exact bQ,rfl⟩,zM⟩,?_⟩
 cbv
 refine ⟨λh=>?_,λh=>?_⟩
 rotate_left
 ·have hF:False:=by have h:=h.out;simp at h
  cases hF
 clear h
 cbv
 refine ⟨zu,⟨.inl ⟨by exact bQ,rfl⟩,avs⟩,?_⟩
 cbv
 refine ⟨λh=>?_,λh=>?_⟩
 rotate_left
 ·have hF:False:=by have h:(!vj zu)=false:=h.out;rw [hlB] at h;cases h
  cases hF
 clear h
 cbv
 refine ⟨⟨⟨[],[],[],[]⟩,lD⟩,⟨.inl ⟨by exact bQ,rfl⟩,pa0⟩,?_⟩
 cbv
 have rN:aV (iG ⟨⟨[],[],[],[]⟩,lD⟩).2 270=true:=by rw [FC];rfl
 exact ⟨by have jJ:=rN;exact dx⟩
noncomputable def avv (n m:Nat):Ctx:=eu n m [] [] [] [] [4]
theorem aAU (n m:Nat):CB PP (avv n m):=ez n m trivial trivial
noncomputable def asM (n m:Nat):Ctx:=eu n m [] []
theorem aAQ (n m:Nat):CB PP (asM n m):=ez n m trivial trivial
noncomputable def avw (n m:Nat):Ctx:=eu n m [] [(174,OY)]
theorem aAV (n m:Nat):CB PP (avw n m):=ez n m trivial ⟨TN,trivial⟩
structure avx where
 p:bC
 l:List Int
structure avy (x:avx):Prop where
 ins:x.p.ins.length<=1000000
 dK:x.p.blocks.length<=1000000
 zN:x.p.ay.length<=1000000
 perm:Ck x.p.blocks.length x.l
 k:∀y∈x.p.blocks,y.ins.length<=1000000
 used:∀y∈x.p.blocks,∀s∈y.ins,0<=s/\s < x.p.sigs
 ay:∀s∈x.p.ay,0<=s/\s < x.p.sigs
def FQ (p:bC) (l:List Int) (i:Nat):List Block:=((l.zip p.blocks).take i).foldl (λb u=>b.set u.1.toNat (aqO p l u.2)) (List.replicate p.blocks.length LH)
structure y4 (p:bC):Prop where
 sh:Shape p
 rk:∃r,k9 p r
 ky:VS p
 il:p.ins.length<=1000000
 ol:p.outs.length<=1000000
theorem y4.va {p:bC} (h:y4 p):uk p :=
 ⟨⟨by have:=h.sh.dK;omega,h.il⟩,h.ol,by rw [h.sh.p8];exact h.ol,λx hx=>by have:=(h.sh.formed x hx).k;omega⟩
theorem y4.vr {p:bC} (h:y4 p):Xt p:=⟨h.va,h.sh,h.rk⟩
theorem y4.mv {p:bC} {l:List Int} (h:y4 p) (hl:Ck p.blocks.length l):avy ⟨p,l⟩ :=
 ⟨h.il,by have:=h.sh.dK;show p.blocks.length<=1000000;omega,h.va.ay,hl,h.va.k,λy hy s hs=>⟨(h.sh.used y hy s hs).lo,(h.sh.used y hy s hs).hi⟩,λs hs=>⟨(h.sh.ay s hs).lo,(h.sh.ay s hs).hi⟩⟩
theorem y4.aZ {p:bC} (h:y4 p) {i:Nat} {y:Block} (hy:p.blocks[i]?=some y) (h0:0<=y.aZ):y.key=iP [1,y.aZ]:=by
 have h1:=h.ky i y hy
 rw [acP (bW.1 hy).1] at h1
 unfold Fs at h1
 rw [hy] at h1
 simp only [if_pos h0] at h1
 exact (vV h1).symm
theorem amT {n:Net} {m:gD} (hn:eX n) (hm:jG n m) (hd:n.ay.length<=1000):y4 (qM n m):=by
 obtain ⟨h1,h2,h3⟩:=Ue hn hm
 obtain ⟨s1,s2⟩:=aaE (m:=m) hn
 have fV:=hn.p8
 exact ⟨h1,⟨_,h2⟩,h3,by omega,by omega⟩
theorem apS {n:Net} {m:gD} (hn:eX n) (hm:jG n m) (hd:n.ay.length<=1000):C1 ⟨n,m⟩ :=
 ⟨⟨hn,by have:=hn.p8;show n.outs.length<=100000;omega,by have:=hn.p8;have:=hm.p8;show m.ay.length<=100000;omega⟩,λ_ _=>hm⟩
theorem ac2 {n:Net} {m:gD} (hm:jG n m):tZ ⟨n,m⟩=(qM n m,0):=by
 unfold tZ
 rw [if_pos ⟨hm.ni.symm,hm.p8.symm⟩]
@[reducible] noncomputable def Q6:Vc.Spec where
 α:=um
 args y:=[.agg [.sl 3 dm (λ_=>y.n.ins),.sl 5 dD (λ_=>y.n.gM),.sl 3 dm (λ_=>y.n.outs),.sl 1 bM (λ_=>y.n.ay)],.agg [.i .i64 (λ_=>y.m.n),.sl 3 rL (λ_=>y.m.cells),.sl 1 bM (λ_=>y.m.ay)]]
 pre y:=C1 y
 res y:=.agg [.sl 3 dm (λ_=>(iG y).1.ins),.sl 5 ph (λ_=>(iG y).1.blocks),.sl 3 dm (λ_=>(iG y).1.outs),.sl 1 bM (λ_=>(iG y).1.ay),.i .i64 (λ_=>(iG y).2)]
noncomputable def avB (n m:Nat):Ctx:=eu n m [] [(74,KY)]
theorem aq5 (n m:Nat):CB PP (avB n m):=ez n m trivial ⟨UR,trivial⟩
theorem afh:cZ (PP ()) 16 Q6:=by
 refine dT (aq5 0 0) (fo Tryz.func16) (λa=>⟨⟨(λx=>(gS x).1),(λx=>(eO x).1),(λx=>(gS x).1),(λx=>(cQ x).1),trivial⟩,⟨trivial,(λx=>(Aw x).1),(λx=>(cQ x).1),trivial⟩,trivial⟩) (λa=>⟨(λx=>(gS x).1),(λx=>(JJ x).1),(λx=>(gS x).1),(λx=>(cQ x).1),trivial,trivial⟩) ?_
 rintro ⟨⟨ins,gs,outs,dr⟩,⟨mn,mc,md⟩⟩ hx
 have hx:C1 ⟨⟨ins,gs,outs,dr⟩,⟨mn,mc,md⟩⟩:=hx
 obtain ⟨R,hR⟩:∃R,iG ⟨⟨ins,gs,outs,dr⟩,⟨mn,mc,md⟩⟩=R:=⟨_,rfl⟩
 obtain ⟨⟨ri,rb,ro,rd⟩,re⟩:=R
 have mS:Q6.res ⟨⟨ins,gs,outs,dr⟩,⟨mn,mc,md⟩⟩=.agg [.sl 3 dm (λ_=>ri),.sl 5 ph (λ_=>rb),.sl 3 dm (λ_=>ro),.sl 1 bM (λ_=>rd),.i .i64 (λ_=>re)]:=by
  show SV.agg [.sl 3 dm (λ_=>(iG ⟨⟨ins,gs,outs,dr⟩,⟨mn,mc,md⟩⟩).1.ins),.sl 5 ph (λ_=>(iG ⟨⟨ins,gs,outs,dr⟩,⟨mn,mc,md⟩⟩).1.blocks),.sl 3 dm (λ_=>(iG ⟨⟨ins,gs,outs,dr⟩,⟨mn,mc,md⟩⟩).1.outs),.sl 1 bM (λ_=>(iG ⟨⟨ins,gs,outs,dr⟩,⟨mn,mc,md⟩⟩).1.ay),.i .i64 (λ_=>(iG ⟨⟨ins,gs,outs,dr⟩,⟨mn,mc,md⟩⟩).2)]=_
  rw [hR]
 have w1:(iG ⟨⟨ins,gs,outs,dr⟩,⟨mn,mc,md⟩⟩).1.ins=ri:=by rw [hR]
 have w2:(iG ⟨⟨ins,gs,outs,dr⟩,⟨mn,mc,md⟩⟩).1.blocks=rb:=by rw [hR]
 have w3:(iG ⟨⟨ins,gs,outs,dr⟩,⟨mn,mc,md⟩⟩).1.outs=ro:=by rw [hR]
 have w4:(iG ⟨⟨ins,gs,outs,dr⟩,⟨mn,mc,md⟩⟩).1.ay=rd:=by rw [hR]
 have w5:(iG ⟨⟨ins,gs,outs,dr⟩,⟨mn,mc,md⟩⟩).2=re:=by rw [hR]
 rw [mS]
 refine ⟨?_⟩
 cbv
 refine ⟨⟨⟨ins,gs,outs,dr⟩,⟨mn,mc,md⟩⟩,⟨by exact bQ,hx⟩,?_⟩
 cbv
 exact ⟨by have dJ:=w1;have rU:=w2;have Da:=w3;have Db:=w4;have bg:=w5;exact dx⟩
theorem cZ.bc {f:FuncId} {S:Vc.Spec} (h:cZ (PP ()) f S) (hr:∀a,S.res a=.b λ_=>true):cZ (PP ()) f { S with res:=λ_=>.bc true,fr:=false } where
 fn:=h.fn
 lf:=h.lf
 lr:=λ_=>trivial
 fresh:=λh=>by cases h
 run:=λa hp H F w vals h1 h2 h3=>(h.run a hp H F w vals h1 h2 h3).mono (by
  rintro e w' ⟨v,H',g1,g2,g3,g4,g5,g6,g7⟩
  rw [hr] at g6
  exact ⟨v,H',g1,g2,g3,g4,g5,by simpa only [rel] using g6,g7⟩)
theorem bys {l:List Int} (h:l.length<=maxLen/\∀x∈l,IntKind.u8.min<=x/\x<=IntKind.u8.max):se l:=by
 refine ⟨by have:=h.1;unfold maxLen at this;omega,λx hx=>?_⟩
 have:=h.2 x hx
 simp [IntKind.min,IntKind.max,IntKind.bits,IntKind.signed] at this
 omega
theorem afi {a b:Int} (h:a % 18446744073709551616=b % 18446744073709551616):BitVec.ofInt 64 a=BitVec.ofInt 64 b:=by
 apply BitVec.eq_of_toNat_eq
 rw [N1,N1]
 omega
theorem ac3 {z:Int} (h0:-9223372036854775808<=z) (h1:z < 18446744073709551616) (h:BitVec.ofInt 64 z=0#64):z=0:=by
 have:=congrArg BitVec.toNat h
 rw [N1] at this
 simp at this
 omega
theorem aee {m:Nat} {x y:BitVec m} (h:x ^^^ y=x):y=0#m:=by
 have:=congrArg (x ^^^ ·) h
 simpa [<-BitVec.xor_assoc] using this
theorem aef {v:BitVec 64}:BitVec.ofInt 64 (v.toNat:Int)=v:=by
 apply BitVec.eq_of_toNat_eq
 rw [N1]
 have:=v.isLt
 omega
theorem aq6 {a z:Int} (h0:-9223372036854775808<=z) (h1:z < 18446744073709551616) (hz:z≠0):jd .xor .i64 a z≠a:=by
 intro e
 have h:jd .xor .i64 a z=IntKind.i64.wrap ((BitVec.ofInt 64 a ^^^ BitVec.ofInt 64 z).toNat:Int):=rfl
 rw [h] at e
 have h2:=congrArg (BitVec.ofInt 64) e
 rw [afi (show IntKind.i64.wrap ((BitVec.ofInt 64 a ^^^ BitVec.ofInt 64 z).toNat:Int) % 18446744073709551616=((BitVec.ofInt 64 a ^^^ BitVec.ofInt 64 z).toNat:Int) % 18446744073709551616 by rw [IntKind.wrap_i64];omega),aef] at h2
 exact hz (ac3 h0 h1 (aee h2))
theorem aq7 {a z:Int} (h0:-9223372036854775808<=z) (h1:z < 18446744073709551616) (hz:z≠0):jd .xor .u64 a z≠a:=by
 intro e
 have h:jd .xor .u64 a z=IntKind.u64.wrap ((BitVec.ofInt 64 a ^^^ BitVec.ofInt 64 z).toNat:Int):=rfl
 rw [h] at e
 have h2:=congrArg (BitVec.ofInt 64) e
 rw [afi (show IntKind.u64.wrap ((BitVec.ofInt 64 a ^^^ BitVec.ofInt 64 z).toNat:Int) % 18446744073709551616=((BitVec.ofInt 64 a ^^^ BitVec.ofInt 64 z).toNat:Int) % 18446744073709551616 by simp [IntKind.wrap,IntKind.bits,IntKind.signed]),aef] at h2
 exact hz (ac3 h0 h1 (aee h2))
theorem UT (z:Int):0<=IntKind.u64.wrap z:=by
 simp [IntKind.wrap,IntKind.bits,IntKind.signed];omega
theorem aeg {z:Int} (h0:0<=z) (h1:z < 18446744073709551616):IntKind.u64.wrap z=z:=by
 simp [IntKind.wrap,IntKind.bits,IntKind.signed];omega
theorem avC:∀s:Fin 16,0 < IntKind.i64.wrap (1*2^(min s.val IntKind.i64.bits))/\IntKind.i64.wrap (1*2^(min s.val IntKind.i64.bits))<=65536:=by decide +kernel
theorem avD:∀s:Fin 64,0 < IntKind.u64.wrap (1*2^(min s.val IntKind.u64.bits))/\IntKind.u64.wrap (1*2^(min s.val IntKind.u64.bits)) < 18446744073709551616:=by decide +kernel
theorem avE:∀s:Fin 5,0 < IntKind.i64.wrap (1*2^(min (IntKind.u64.wrap ((s.val:Nat):Int)).toNat IntKind.i64.bits))/\IntKind.i64.wrap (1*2^(min (IntKind.u64.wrap ((s.val:Nat):Int)).toNat IntKind.i64.bits))<=16:=by decide +kernel
theorem HL {s k S:Int} (h0:0<=s) (h1:s < S) (h2:S<=2000000) (k0:0<=k) (k1:k<=4) (h:(!aV ((IntKind.i64.wrap (1+k)).tmod S) 0)=true):(IntKind.i64.wrap (IntKind.i64.wrap (s+1)+k)).tmod S≠s:=by
 have e1:IntKind.i64.wrap (s+1)=s+1:=cu (by omega) (by omega)
 have e2:IntKind.i64.wrap (s+1+k)=s+1+k:=cu (by omega) (by omega)
 have e3:IntKind.i64.wrap (1+k)=1+k:=cu (by omega) (by omega)
 rw [e1,e2,qI (by omega)]
 rw [e3,qI (by omega)] at h
 have h':¬(1+k) % S=0:=by simpa [aV] using h
 intro e
 have h3:(s+1+k) % S=s % S:=by rw [e,Int.emod_eq_of_lt h0 h1]
 have h4:=Int.emod_eq_emod_iff_emod_sub_eq_zero.1 h3
 rw [show s+1+k - s=1+k by omega] at h4
 exact h' h4
theorem aq8 {a z:Int} (h0:0 < z) (h1:z < 18446744073709551616):jd .xor .u64 a z≠a:=aq7 (by omega) h1 (by omega)
theorem aq9 {a z:Int} (h0:0 < z) (h1:z<=65536):jd .xor .i64 a z≠a:=aq6 (by omega) (by omega) (by omega)
theorem afj {ins outs:List bU} {blocks:List Block} {ay:List Int} (h:uk ⟨ins,blocks,outs,ay⟩) {i:Nat} {y:Block} (hy:y.ins.length<=1000000):uk ⟨ins,blocks.set i y,outs,ay⟩ :=
 ⟨⟨by show (blocks.set i y).length<=1000000;rw [km];exact h.small.dK,h.small.ins⟩,h.outs,h.ay,λx hx=>by
  rcases NU hx with g|g
  ·exact h.k x g
  ·rw [g];exact hy⟩
@[reducible] noncomputable def Wo:Vc.Spec where
 α:=bC
 args x:=[.agg (fH x)]
 pre x:=yS x
 res x:=.i .i64 (λ_=>(x.ins.length:Int)+2*(x.blocks.length:Int))
noncomputable def cSg (n m:Nat):Ctx:=eu n m [] []
theorem asN (n m:Nat):CB PP (cSg n m):=ez n m trivial trivial
theorem aeh:cZ (PP ()) 102 Wo:=by
 refine dT (asN 0 0) (fo Tryz.func102) (λa=>⟨kD a,trivial⟩) (λa=>trivial) ?_
 rintro ⟨ins,blocks,outs,ay⟩ hx
 have hx:yS ⟨ins,blocks,outs,ay⟩:=hx
 have hb:blocks.length<=1000000:=hx.dK
 have hi:ins.length<=1000000:=hx.ins
 have e1:IntKind.i64.wrap (2*(blocks.length:Int))=2*(blocks.length:Int):=cu (by omega) (by omega)
 have e2:IntKind.i64.wrap ((ins.length:Int)+IntKind.i64.wrap (2*(blocks.length:Int)))=(ins.length:Int)+2*(blocks.length:Int):=by rw [e1];exact cu (by omega) (by omega)
 refine ⟨?_⟩
 cbv
 exact ⟨by have bg:=e2;exact dx⟩
structure agM where
 p:bC
 a:Int
 b:Int
 c:Int
structure Wp (x:agM):Prop where
 g:y4 x.p
 a:0<=x.a/\x.a<=255
 b:0<=x.b/\x.b<=255
 c:0<=x.c/\x.c<=255
structure aiQ where
 q:bC
 ok:Bool
structure Ky (p:bC) (y:aiQ):Prop where
 sp:y.ok=true->Pt p y.q
 va:y.ok=true->uk y.q
@[reducible] noncomputable def avF:fK where
 α:=agM
 args x:=[.agg (fH x.p),.agg [.i .u8 (λ_=>x.a),.i .u8 (λ_=>x.b),.i .u8 (λ_=>x.c)]]
 pre x:=Wp x
 β:=aiQ
 post x y:=Ky x.p y
 res x y:=.dG [.agg (fH y.q),.b (λ_=>y.ok)]
noncomputable def avG (n m:Nat):Ctx:=eu n m [] [(102,Wo)] [] [] [22]
theorem ara (n m:Nat):CB PP (avG n m):=ez n m trivial ⟨aeh,trivial⟩
noncomputable def asO (n m:Nat):Ctx:=eu n m [] [(102,Wo)]
theorem apT (n m:Nat):CB PP (asO n m):=ez n m trivial ⟨aeh,trivial⟩
theorem arb:eG PP 28 avF:=by
 refine iL (ara 0 0) (fo Tryz.func28) (λa=>⟨kD a.p,⟨trivial,trivial,trivial,trivial⟩,trivial⟩) (λa y=>⟨kD y.q,trivial,trivial⟩) ?_
 rintro ⟨⟨ins,blocks,outs,ay⟩,a,b,c⟩ hx
 have hx:Wp ⟨⟨ins,blocks,outs,ay⟩,a,b,c⟩:=hx
 have hb6:blocks.length<=600:=hx.g.sh.dK
 have F4:ay.length<=1000000:=hx.g.va.ay
 have z1:(([]:List Block).length+blocks.length)*56<=140737488355328:=by simp only [sT];omega
 have z2:([]:List Block).length+blocks.length<=9223372036854775807:=by simp only [sT];omega
 have z3:(([]:List Int).length+ay.length)*8<=140737488355328:=by simp only [sT];omega
 have z4:([]:List Int).length+ay.length<=9223372036854775807:=by simp only [sT];omega
 obtain ⟨B,hB⟩:∃B:List Block,[]++blocks=B:=⟨_,rfl⟩
 have hBb:B=blocks:=by rw [<-hB];rfl
 have hMx:∃M:Int,(if ((([]:List Block)++blocks).length:Int)<=1 then (1:Int) else ((([]:List Block)++blocks).length:Int))=M/\1<=M/\(1<=blocks.length->M=blocks.length):=by
  refine ⟨_,rfl,?_,?_⟩
  ·split<;>omega
  ·intro h
   rw [jP]
   split<;>omega
 obtain ⟨M,hM,hM1,RL⟩:=hMx
 have RV:¬(if ((([]:List Block)++blocks).length:Int)<=1 then (1:Int) else ((([]:List Block)++blocks).length:Int))=0:=by rw [hM];omega
 have ha:0<=a/\a<=255:=hx.a
 have hb:0<=b/\b<=255:=hx.b
 have hc:0<=c/\c<=255:=hx.c
 have IU:IntKind.i64.wrap b=b:=cu (by omega) (by omega)
 have MS:IntKind.i64.wrap c=c:=cu (by omega) (by omega)
 have gu:∃ia:Nat,(IntKind.i64.wrap b).tmod (if ((([]:List Block)++blocks).length:Int)<=1 then (1:Int) else ((([]:List Block)++blocks).length:Int))=(ia:Int)/\(1<=blocks.length->ia < blocks.length):=by
  rw [hM,IU]
  have h1:=JD b (show M≠0 by omega)
  have h2:=Jy b (show 0 < M by omega)
  rw [qI hb.1]
  exact ⟨(b % M).toNat,by omega,λh=>by have:=RL h;omega⟩
 obtain ⟨ia,R5,bt⟩:=gu
 have cO:aV ((([]:List Block)++blocks).length:Int) 0=false->1<=blocks.length:=λh=>by
  rw [jP] at h
  have h2:¬(blocks.length:Int)=0:=by simpa [aV] using h
  omega
 have f1:ia < blocks.length->0<=(IntKind.i64.wrap b).tmod (if ((([]:List Block)++blocks).length:Int)<=1 then (1:Int) else ((([]:List Block)++blocks).length:Int))/\((IntKind.i64.wrap b).tmod (if ((([]:List Block)++blocks).length:Int)<=1 then (1:Int) else ((([]:List Block)++blocks).length:Int))).toNat < (([]:List Block)++blocks).length:=λh=>by
  rw [R5,jP];omega
 have f2:∀x,blocks[ia]?=some x->(([]:List Block)++blocks)[((IntKind.i64.wrap b).tmod (if ((([]:List Block)++blocks).length:Int)<=1 then (1:Int) else ((([]:List Block)++blocks).length:Int))).toNat]?=some x:=λx h=>by
  rw [R5,jP,ox];exact h
 have f3:∀y,(([]:List Block)++blocks).set ((IntKind.i64.wrap b).tmod (if ((([]:List Block)++blocks).length:Int)<=1 then (1:Int) else ((([]:List Block)++blocks).length:Int))).toNat y=blocks.set ia y:=λy=>by
  rw [R5,jP,ox]
 refine ⟨?_⟩
 cbv
 refine ⟨blocks,⟨by exact aK,z1,z2⟩,?_⟩
 cbv
 refine ⟨ay,⟨by exact aK,z3,z4⟩,?_⟩
 cbv
 refine ⟨⟨RV⟩,?_⟩
 refine ⟨λh=>?_,λh=>?_⟩
 ·cbv
  exact .mk' ⟨⟨ins,blocks,outs,ay⟩,false⟩ ⟨by exact aK⟩ ⟨λh=>(by cases h),λh=>(by cases h)⟩
 have jx:=cO h.out
 have bt:=bt jx
 refine (bD bt).elim λx ku=>?_
 have ot:=hx.g.sh.formed x (cb ku)
 have g1:=f1 bt
 have g2:=f2 x ku
 have BA:uk ⟨ins,blocks,outs,ay⟩:=hx.g.va
 have mq:x.ins.length<=4:=ot.k
 have fin:∀y:Block,y≠x->y.ins.length<=1000000->Ky ⟨ins,blocks,outs,ay⟩ ⟨⟨ins,blocks.set ia y,outs,ay⟩,true⟩:=λy hy hk=>⟨λ_=>⟨rfl,.inl ⟨rfl,ia,x,y,ku,hy,rfl⟩⟩,λ_=>afj BA hk⟩
 have LW:x.ins.length<=1000000:=by omega
 have Bp:0<=(IntKind.i64.wrap c).tmod 3/\(IntKind.i64.wrap c).tmod 3<=2:=by
  rw [MS,qI hc.1];omega
 have hrr:=ot.aZ
 have RE:=ot.bR
 have ui:∃r,IntKind.i64.wrap (IntKind.i64.wrap (x.aZ+1)+(IntKind.i64.wrap c).tmod 3)=r/\r≠x.aZ:=by
  refine ⟨_,rfl,?_⟩
  have e:IntKind.i64.wrap (x.aZ+1)=x.aZ+1:=cu (by omega) (by omega)
  rw [e,cu (by omega) (by omega)]
  omega
 obtain ⟨r,hr,Ga⟩:=ui
 have LI:∃r,IntKind.i64.wrap (IntKind.i64.wrap (x.bR+1)+(IntKind.i64.wrap c).tmod 3)=r/\r≠x.bR:=by
  refine ⟨_,rfl,?_⟩
  have e:IntKind.i64.wrap (x.bR+1)=x.bR+1:=cu (by omega) (by omega)
  rw [e,cu (by omega) (by omega)]
  omega
 obtain ⟨m,hm,zA⟩:=LI
 have nr:=fin ⟨x.ins,x.table,x.bR,r,x.key⟩ (λe=>Ga (congrArg Block.aZ e)) LW
 have hfm:=fin ⟨x.ins,x.table,m,x.aZ,x.key⟩ (λe=>zA (congrArg Block.bR e)) LW
 have f3r:=f3 ⟨x.ins,x.table,x.bR,r,x.key⟩
 have f3m:=f3 ⟨x.ins,x.table,m,x.aZ,x.key⟩
 have avH:0<=(IntKind.i64.wrap c).tmod 64/\(IntKind.i64.wrap c).tmod 64 < 64:=by
  rw [MS,qI hc.1];omega
 have agT:∃r,jd .xor .u64 x.key (IntKind.u64.wrap (1*2^(min (IntKind.u64.wrap ((IntKind.i64.wrap c).tmod 64)).toNat IntKind.u64.bits)))=r/\r≠x.key:=by
  refine ⟨_,rfl,?_⟩
  rw [aeg avH.1 (by omega)]
  have h:=avD ⟨((IntKind.i64.wrap c).tmod 64).toNat,by omega⟩
  exact aq8 h.1 h.2
 obtain ⟨kk,ly,hkn⟩:=agT
 have nn1:=UT ((IntKind.i64.wrap c).tmod 64)
 have hfk:=fin ⟨x.ins,x.table,x.bR,x.aZ,kk⟩ (λe=>hkn (congrArg Block.key e)) LW
 have f3k:=f3 ⟨x.ins,x.table,x.bR,x.aZ,kk⟩
 have hW:=avE ⟨x.ins.length,by omega⟩
 have hWx:∃W,IntKind.i64.wrap (1*2^(min (IntKind.u64.wrap (x.ins.length:Int)).toNat IntKind.i64.bits))=W/\0 < W/\W<=16:=⟨_,rfl,hW⟩
 obtain ⟨W,hWe,I5,hW1⟩:=hWx
 have MN:¬IntKind.i64.wrap (1*2^(min (IntKind.u64.wrap (x.ins.length:Int)).toNat IntKind.i64.bits))=0:=by rw [hWe];omega
 have cJ:0<=(IntKind.i64.wrap c).tmod W/\(IntKind.i64.wrap c).tmod W < 16:=by
  rw [MS,qI hc.1]
  have:=JD c (show W≠0 by omega)
  have:=Jy c I5
  omega
 have nn2:=UT (x.ins.length:Int)
 have nn3:=UT ((IntKind.i64.wrap c).tmod (IntKind.i64.wrap (1*2^(min (IntKind.u64.wrap (x.ins.length:Int)).toNat IntKind.i64.bits))))
 have QS:∃r,jd .xor .i64 x.table (IntKind.i64.wrap (1*2^(min (IntKind.u64.wrap ((IntKind.i64.wrap c).tmod (IntKind.i64.wrap (1*2^(min (IntKind.u64.wrap (x.ins.length:Int)).toNat IntKind.i64.bits))))).toNat IntKind.i64.bits)))=r/\r≠x.table:=by
  refine ⟨_,rfl,?_⟩
  rw [hWe,aeg cJ.1 (by omega)]
  have h:=avC ⟨((IntKind.i64.wrap c).tmod W).toNat,by omega⟩
  exact aq9 h.1 h.2
 obtain ⟨tb,IG,pB⟩:=QS
 have hft:=fin ⟨x.ins,tb,x.bR,x.aZ,x.key⟩ (λe=>pB (congrArg Block.table e)) LW
 have f3t:=f3 ⟨x.ins,tb,x.bR,x.aZ,x.key⟩
 have avI:aV ((([]:List Int)++ay).length:Int) 0=false->¬((([]:List Int)++ay).length:Int)=0:=λh=>by
  simpa [aV] using h
 have avJ:¬((([]:List Int)++ay).length:Int)=0->∃d:Nat,((IntKind.i64.wrap b).tmod (if ((([]:List Block)++blocks).length:Int)<=1 then (1:Int) else ((([]:List Block)++blocks).length:Int))).tmod ((([]:List Int)++ay).length:Int)=(d:Int)/\d < ay.length:=λh=>by
  rw [jP] at h
  rw [R5,jP,qI (show (0:Int)<=(ia:Int) by omega)]
  have h1:=JD (ia:Int) h
  have h2:=Jy (ia:Int) (show 0 < (ay.length:Int) by omega)
  exact ⟨((ia:Int) % ay.length).toNat,by omega,by omega⟩
 have tD:∀d:Nat,((IntKind.i64.wrap b).tmod (if ((([]:List Block)++blocks).length:Int)<=1 then (1:Int) else ((([]:List Block)++blocks).length:Int))).tmod ((([]:List Int)++ay).length:Int)=(d:Int)->d < ay.length->0<=((IntKind.i64.wrap b).tmod (if ((([]:List Block)++blocks).length:Int)<=1 then (1:Int) else ((([]:List Block)++blocks).length:Int))).tmod ((([]:List Int)++ay).length:Int)/\(((IntKind.i64.wrap b).tmod (if ((([]:List Block)++blocks).length:Int)<=1 then (1:Int) else ((([]:List Block)++blocks).length:Int))).tmod ((([]:List Int)++ay).length:Int)).toNat < (([]:List Int)++ay).length:=λd e h=>by
  rw [e,jP];omega
 have IY:∀(d:Nat) (s:Int),((IntKind.i64.wrap b).tmod (if ((([]:List Block)++blocks).length:Int)<=1 then (1:Int) else ((([]:List Block)++blocks).length:Int))).tmod ((([]:List Int)++ay).length:Int)=(d:Int)->ay[d]?=some s->(([]:List Int)++ay)[(((IntKind.i64.wrap b).tmod (if ((([]:List Block)++blocks).length:Int)<=1 then (1:Int) else ((([]:List Block)++blocks).length:Int))).tmod ((([]:List Int)++ay).length:Int)).toNat]?=some s:=λd s e h=>by
  rw [e,jP,ox];exact h
 have hd3:∀(d:Nat) (s:Int),((IntKind.i64.wrap b).tmod (if ((([]:List Block)++blocks).length:Int)<=1 then (1:Int) else ((([]:List Block)++blocks).length:Int))).tmod ((([]:List Int)++ay).length:Int)=(d:Int)->(([]:List Int)++ay).set (((IntKind.i64.wrap b).tmod (if ((([]:List Block)++blocks).length:Int)<=1 then (1:Int) else ((([]:List Block)++blocks).length:Int))).tmod ((([]:List Int)++ay).length:Int)).toNat s=ay.set d s:=λd s e=>by
  rw [e,jP,ox]
 have nQ:yS ⟨ins,blocks,outs,ay⟩:=BA.small
 have aBM:ins.length<=1000000:=nQ.ins
 obtain ⟨S,hS⟩:∃S:Int,(ins.length:Int)+2*(blocks.length:Int)=S:=⟨_,rfl⟩
 have hSb:1<=S/\S<=2000000:=by omega
 have R6:¬(ins.length:Int)+2*(blocks.length:Int)=0:=by omega
 have hc5:0<=(IntKind.i64.wrap c).tmod 5/\(IntKind.i64.wrap c).tmod 5<=4:=by
  rw [MS,qI hc.1];omega
 have hdu:∀s∈ay,0<=s/\s < S:=λs h=>by
  have h1:=(hx.g.sh.ay s h).lo
  have h2:s < (ins.length:Int)+2*(blocks.length:Int):=(hx.g.sh.ay s h).hi
  omega
 obtain ⟨ok,cg⟩:∃ok,(!aV ((IntKind.i64.wrap (1+(IntKind.i64.wrap c).tmod 5)).tmod ((ins.length:Int)+2*(blocks.length:Int))) 0)=ok:=⟨_,rfl⟩
 have agN:∀s,0<=s->s < S->ok=true->(IntKind.i64.wrap (IntKind.i64.wrap (s+1)+(IntKind.i64.wrap c).tmod 5)).tmod ((ins.length:Int)+2*(blocks.length:Int))≠s:=λs h0 h1 e=>by
  rw [hS] at cg ⊢
  exact HL h0 h1 hSb.2 hc5.1 hc5.2 (cg.trans e)
 have find:∀(d:Nat) (s t:Int),ay[d]?=some s->(ok=true->t≠s)->Ky ⟨ins,blocks,outs,ay⟩ ⟨⟨ins,blocks,outs,ay.set d t⟩,ok⟩:=λd s t hs hn =>
  ⟨λe=>⟨rfl,.inr ⟨rfl,d,s,t,hs,hn e,rfl⟩⟩,λ_=>⟨⟨BA.small.dK,BA.small.ins⟩,BA.outs,by show (ay.set d t).length<=1000000;rw [km];exact F4,BA.k⟩⟩
 have z5:(([]:List Int).length+x.ins.length)*8<=140737488355328:=by simp only [sT];omega
 have z6:([]:List Int).length+x.ins.length<=9223372036854775807:=by simp only [sT];omega
 have avK:aV (x.ins.length:Int) 0=false->¬((([]:List Int)++x.ins).length:Int)=0:=λh=>by
  rw [jP];simpa [aV] using h
 have avL:¬((([]:List Int)++x.ins).length:Int)=0->∃d:Nat,(IntKind.i64.wrap c).tmod ((([]:List Int)++x.ins).length:Int)=(d:Int)/\d < x.ins.length:=λh=>by
  rw [jP] at h
  rw [MS,jP,qI hc.1]
  have h1:=JD c h
  have h2:=Jy c (show 0 < (x.ins.length:Int) by omega)
  exact ⟨(c % x.ins.length).toNat,by omega,by omega⟩
 have eT:∀d:Nat,(IntKind.i64.wrap c).tmod ((([]:List Int)++x.ins).length:Int)=(d:Int)->d < x.ins.length->0<=(IntKind.i64.wrap c).tmod ((([]:List Int)++x.ins).length:Int)/\((IntKind.i64.wrap c).tmod ((([]:List Int)++x.ins).length:Int)).toNat < (([]:List Int)++x.ins).length:=λd e h=>by
  rw [e,jP];omega
 have lP:∀(d:Nat) (s:Int),(IntKind.i64.wrap c).tmod ((([]:List Int)++x.ins).length:Int)=(d:Int)->x.ins[d]?=some s->(([]:List Int)++x.ins)[((IntKind.i64.wrap c).tmod ((([]:List Int)++x.ins).length:Int)).toNat]?=some s:=λd s e h=>by
  rw [e,jP,ox];exact h
 have mQ:∀(d:Nat) (s:Int),(IntKind.i64.wrap c).tmod ((([]:List Int)++x.ins).length:Int)=(d:Int)->(([]:List Int)++x.ins).set ((IntKind.i64.wrap c).tmod ((([]:List Int)++x.ins).length:Int)).toNat s=x.ins.set d s:=λd s e=>by
  rw [e,jP,ox]
 have yv:∀s∈x.ins,0<=s/\s < S:=λs h=>by
  have h0:=hx.g.sh.used x (cb ku) s h
  have h1:=h0.lo
  have h2:s < (ins.length:Int)+2*(blocks.length:Int):=h0.hi
  omega
 clear h
 cbv
 refine ⟨⟨g1⟩,?_⟩
 refine ⟨x,⟨g2,rfl⟩,?_⟩
 cbv
 refine ⟨⟨by decide⟩,?_⟩
 refine ⟨λh=>?_,λh=>?_⟩
 ·cbv
  refine ⟨⟨nn2⟩,⟨MN⟩,⟨nn3⟩,⟨g1⟩,?_⟩
  refine ⟨(x,⟨x.ins,tb,x.bR,x.aZ,x.key⟩),⟨g2,rfl,by have bg:=IG;exact cP⟩,?_⟩
  cbv
  exact .mk' ⟨⟨ins,blocks.set ia ⟨x.ins,tb,x.bR,x.aZ,x.key⟩,outs,ay⟩,true⟩ ⟨by have dJ:=f3t;exact dx⟩ hft
 ·cbv
  refine ⟨λh=>?_,λh=>?_⟩
  ·cbv
   refine ⟨λh=>?_,λh=>?_⟩
   ·cbv
    exact .mk' ⟨⟨ins,blocks,outs,ay⟩,false⟩ ⟨by exact aK⟩ ⟨λh=>(by cases h),λh=>(by cases h)⟩
   ·have hkz:=avK h.out
    refine (avL hkz).elim λd hd=>?_
    refine (bD hd.2).elim λs hs=>?_
    have qs:=yv s (cb hs)
    have p1:=eT d hd.1 hd.2
    have p2:=lP d s hd.1 hs
    have wN:=agN s qs.1 qs.2
    obtain ⟨t,ht⟩:∃t,(IntKind.i64.wrap (IntKind.i64.wrap (s+1)+(IntKind.i64.wrap c).tmod 5)).tmod ((ins.length:Int)+2*(blocks.length:Int))=t:=⟨_,rfl⟩
    rw [ht] at wN
    have p3:=mQ d t hd.1
    clear h
    cbv
    refine ⟨x.ins,⟨by exact aK,z5,z6⟩,?_⟩
    cbv
    refine ⟨⟨hkz⟩,⟨p1⟩,?_⟩
    refine ⟨s,⟨p2,rfl⟩,?_⟩
    cbv
    refine ⟨⟨by decide⟩,⟨ins,blocks,outs,ay⟩,⟨.inl ⟨by exact bQ,rfl⟩,nQ⟩,?_⟩
    cbv
    refine ⟨⟨R6⟩,⟨p1⟩,?_⟩
    refine ⟨(s,t),⟨p2,rfl,by have bg:=ht;exact cP⟩,?_⟩
    have hy6:(x.ins.set d t).length<=1000000:=by rw [km];exact LW
    have hyo:Ky ⟨ins,blocks,outs,ay⟩ ⟨⟨ins,blocks.set ia ⟨x.ins.set d t,x.table,x.bR,x.aZ,x.key⟩,outs,ay⟩,ok⟩:=⟨λe=>⟨rfl,.inl ⟨rfl,ia,x,_,ku,λe2=>by
     have e3:x.ins.set d t=x.ins:=congrArg Block.ins e2
     have e4:(x.ins.set d t)[d]?=some t:=o9 hd.2
     rw [e3,hs] at e4
     exact wN e (vV e4).symm,rfl⟩⟩,λ_=>afj BA hy6⟩
    obtain ⟨D,hD⟩:∃D,x.ins.set d t=D:=⟨_,rfl⟩
    rw [hD] at p3 hyo
    have f3y:=f3 ⟨D,x.table,x.bR,x.aZ,x.key⟩
    cbv
    refine Sat.freeze 9 rfl rfl ?_
    refine Sat.wU (apT 0 0) ?_
    cbv
    refine ⟨⟨by decide⟩,⟨ins,blocks,outs,ay⟩,⟨.inl ⟨by exact bQ,rfl⟩,nQ⟩,?_⟩
    cbv
    refine ⟨⟨R6⟩,⟨g1⟩,?_⟩
    refine ⟨(x,⟨D,x.table,x.bR,x.aZ,x.key⟩),⟨g2,rfl,by have dJ:=p3;exact cP⟩,?_⟩
    cbv
    exact .mk' ⟨⟨ins,blocks.set ia ⟨D,x.table,x.bR,x.aZ,x.key⟩,outs,ay⟩,ok⟩ ⟨by have dJ:=f3y;have jJ:=cg;exact dx⟩ hyo
  ·cbv
   refine ⟨λh=>?_,λh=>?_⟩
   ·cbv
    refine ⟨⟨by decide⟩,⟨g1⟩,?_⟩
    refine ⟨(x,⟨x.ins,x.table,x.bR,r,x.key⟩),⟨g2,rfl,by have bg:=hr;exact cP⟩,?_⟩
    cbv
    exact .mk' ⟨⟨ins,blocks.set ia ⟨x.ins,x.table,x.bR,r,x.key⟩,outs,ay⟩,true⟩ ⟨by have dJ:=f3r;exact dx⟩ nr
   ·cbv
    refine ⟨λh=>?_,λh=>?_⟩
    ·cbv
     refine ⟨⟨by decide⟩,⟨g1⟩,?_⟩
     refine ⟨(x,⟨x.ins,x.table,m,x.aZ,x.key⟩),⟨g2,rfl,by have bg:=hm;exact cP⟩,?_⟩
     cbv
     exact .mk' ⟨⟨ins,blocks.set ia ⟨x.ins,x.table,m,x.aZ,x.key⟩,outs,ay⟩,true⟩ ⟨by have dJ:=f3m;exact dx⟩ hfm
    ·cbv
     refine ⟨λh=>?_,λh=>?_⟩
     ·cbv
      refine ⟨⟨by decide⟩,⟨nn1⟩,⟨g1⟩,?_⟩
      refine ⟨(x,⟨x.ins,x.table,x.bR,x.aZ,kk⟩),⟨g2,rfl,by have bg:=ly;exact cP⟩,?_⟩
      cbv
      exact .mk' ⟨⟨ins,blocks.set ia ⟨x.ins,x.table,x.bR,x.aZ,kk⟩,outs,ay⟩,true⟩ ⟨by have dJ:=f3k;exact dx⟩ hfk
     ·cbv
      refine ⟨λh=>?_,λh=>?_⟩
      ·cbv
       exact .mk' ⟨⟨ins,blocks,outs,ay⟩,false⟩ ⟨by exact aK⟩ ⟨λh=>(by cases h),λh=>(by cases h)⟩
      ·have hdz:=avI h.out
       refine (avJ hdz).elim λd hd=>?_
       refine (bD hd.2).elim λs hs=>?_
       have qs:=hdu s (cb hs)
       have p1:=tD d hd.1 hd.2
       have p2:=IY d s hd.1 hs
       have wN:=agN s qs.1 qs.2
       obtain ⟨t,ht⟩:∃t,(IntKind.i64.wrap (IntKind.i64.wrap (s+1)+(IntKind.i64.wrap c).tmod 5)).tmod ((ins.length:Int)+2*(blocks.length:Int))=t:=⟨_,rfl⟩
       rw [ht] at wN
       have p3:=hd3 d t hd.1
       have hfd:=find d s t hs wN
       obtain ⟨D,hD⟩:∃D,ay.set d t=D:=⟨_,rfl⟩
       rw [hD] at p3 hfd
       clear h
       cbv
       refine ⟨⟨hdz⟩,⟨p1⟩,?_⟩
       refine ⟨s,⟨p2,rfl⟩,?_⟩
       cbv
       refine ⟨⟨by decide⟩,⟨ins,blocks,outs,ay⟩,⟨.inl ⟨by exact bQ,rfl⟩,nQ⟩,?_⟩
       cbv
       refine ⟨⟨R6⟩,⟨p1⟩,?_⟩
       refine ⟨(s,t),⟨p2,rfl,by have bg:=ht;exact cP⟩,?_⟩
       cbv
       refine ⟨⟨by decide⟩,⟨ins,blocks,outs,D⟩,⟨.inl ⟨by have dJ:=p3;exact cP,rfl⟩,⟨nQ.dK,nQ.ins⟩⟩,?_⟩
       cbv
       refine ⟨⟨R6⟩,?_⟩
       exact .mk' ⟨⟨ins,blocks,outs,D⟩,ok⟩ ⟨by have dJ:=p3;have jJ:=cg;exact dx⟩ hfd
theorem anF {q:bC} (h:Shape q):aeW q:=⟨λs hs=>⟨(h.ay s hs).lo,(h.ay s hs).hi⟩,λx hx s hs=>⟨(h.used x hx s hs).lo,(h.used x hx s hs).hi⟩⟩
theorem aoK {n:Net} {m:gD} {q:bC} (hm:jG n m) (h:Pt (qM n m) q):tX ⟨n,m⟩ q=270:=by
 unfold tX
 rw [ac2 hm,if_neg]
 rintro ⟨_,hv,hs⟩
 exact apv h (anF hv.1) hs
structure Rf where
 x:List Int
 s:List Int
 i:List Int
 c:List Int
 k0:Int
 k1:Int
 k2:Int
structure aiR (y:Rf):Prop where
 x:se y.x
 c:se y.c
 k0:0<=y.k0/\y.k0<=255
 k1:0<=y.k1/\y.k1<=255
 k2:0<=y.k2/\y.k2<=255
@[reducible] noncomputable def RfS:Vc.Spec where
 α:=Rf
 args y:=[.agg [.sl 1 jq (λ_=>y.x),.sl 1 jq (λ_=>y.s),.sl 1 jq (λ_=>y.i),.sl 1 jq (λ_=>y.c)],.agg [.i .u8 (λ_=>y.k0),.i .u8 (λ_=>y.k1),.i .u8 (λ_=>y.k2)]]
 pre y:=aiR y
 res y:=.b (λ_=>true)
noncomputable def cRf (n m:Nat):Ctx:=eu n m [(15,Tryz.f15),(28,Tryz.f28)] [(11,Zq),(12,Vg),(16,Q6),(17,UM),(25,O1)] [15,28]
theorem asP (n m:Nat):CB PP (cRf n m):=ez n m ⟨fo Tryz.func15,fo Tryz.func28,trivial⟩ ⟨agL,acJ,afh,abM,abQ,trivial⟩
theorem asQ:cZ (PP ()) 5 RfS:=by
 refine dT (asP 0 0) (fo Tryz.func5) (λa=>⟨⟨(λx=>(tU x).1),(λx=>(tU x).1),(λx=>(tU x).1),(λx=>(tU x).1),trivial⟩,⟨trivial,trivial,trivial,trivial⟩,trivial⟩) (λa=>trivial) ?_
 rintro ⟨x,s,i0,c,k0,k1,k2⟩ hx
 have hx:aiR ⟨x,s,i0,c,k0,k1,k2⟩:=hx
 have oY:se x:=hx.x
 have gB:se c:=hx.c
 have gA:0<=k0/\k0<=255:=hx.k0
 have eT:0<=k1/\k1<=255:=hx.k1
 have lP:0<=k2/\k2<=255:=hx.k2
 clear hx
 refine ⟨?_⟩
 cbv
 refine ⟨(),⟨by exact bQ,trivial⟩,?_⟩
 cbv
 refine ⟨λh=>?_,λh=>?_⟩
 ·have hF:False:=by have h:=h.out;simp at h
  cases hF
 clear h
 cbv
 refine ⟨λh=>?_,λh=>?_⟩
 ·cbv
  exact ⟨.refl _⟩
 have aBN:c.length<=40:=by
  have h':aU 40 (c.length:Int)=false:=h.out
  have h2:¬(40:Int) < c.length:=by simpa [aU] using h'
  omega
 have lz:c.length<=1000/\∀z∈c,0<=z/\z<=255:=⟨by omega,gB.2⟩
 clear h
 cbv
 refine ⟨x,⟨by exact bQ,oY⟩,?_⟩
 cbv
 refine bV.rel aqM c (by exact aK) ⟨lz⟩ λy hy=>?_
 have hy:P7 y:=hy.out
 obtain ⟨⟨ins,gs,outs,dr⟩,⟨mn,mc,md⟩,is⟩:=y
 have j6:eX ⟨ins,gs,outs,dr⟩:=hy.Bv
 have nw:dr.length<=1000:=hy.zN
 have CC:is=true->jG ⟨ins,gs,outs,dr⟩ ⟨mn,mc,md⟩:=hy.map
 clear hy
 cbv
 refine ⟨λh=>?_,λh=>?_⟩
 ·cbv
  exact ⟨.refl _⟩
 have his:is=true:=by
  have h':(!is)=false:=h.out
  simpa using h'
 have R7:=CC his
 have Dv:=apS j6 R7 nw
 have Wq:=amT j6 R7 nw
 have FO:∀q,Pt (qM ⟨ins,gs,outs,dr⟩ ⟨mn,mc,md⟩) q->tX ⟨⟨ins,gs,outs,dr⟩,⟨mn,mc,md⟩⟩ q=270:=λq h=>aoK R7 h
 have vA:iG ⟨⟨ins,gs,outs,dr⟩,⟨mn,mc,md⟩⟩=(qM ⟨ins,gs,outs,dr⟩ ⟨mn,mc,md⟩,0):=by rw [yN,ac2 R7]
 obtain ⟨p,hp⟩:∃p,qM ⟨ins,gs,outs,dr⟩ ⟨mn,mc,md⟩=p:=⟨_,rfl⟩
 rw [hp] at vA Wq FO
 obtain ⟨P1,P2,P3,P4⟩:=p
 have w1:(iG ⟨⟨ins,gs,outs,dr⟩,⟨mn,mc,md⟩⟩).1.ins=P1:=by rw [vA]
 have w2:(iG ⟨⟨ins,gs,outs,dr⟩,⟨mn,mc,md⟩⟩).1.blocks=P2:=by rw [vA]
 have w3:(iG ⟨⟨ins,gs,outs,dr⟩,⟨mn,mc,md⟩⟩).1.outs=P3:=by rw [vA]
 have w4:(iG ⟨⟨ins,gs,outs,dr⟩,⟨mn,mc,md⟩⟩).1.ay=P4:=by rw [vA]
 have w5:(iG ⟨⟨ins,gs,outs,dr⟩,⟨mn,mc,md⟩⟩).2=0:=by rw [vA]
 clear h CC hp
 cbv
 refine ⟨⟨⟨ins,gs,outs,dr⟩,⟨mn,mc,md⟩⟩,⟨by exact bQ,Dv⟩,?_⟩
 cbv
 refine ⟨λh=>?_,λh=>?_⟩
 ·have hF:False:=by
   have h:=h.out
   rw [show aV (iG ⟨⟨ins,gs,outs,dr⟩,⟨mn,mc,md⟩⟩).2 0=true by rw [w5];rfl] at h
   cases h
  cases hF
 clear h
 have YB:=Wq.vr
 have vu:Wp ⟨⟨P1,P2,P3,P4⟩,k0,k1,k2⟩:=⟨Wq,gA,eT,lP⟩
 cbv
 refine ⟨⟨P1,P2,P3,P4⟩,⟨by have dJ:=w1;have rU:=w2;have Da:=w3;have Db:=w4;exact cP,YB⟩,?_⟩
 cbv
 refine ⟨λh=>?_,λh=>?_⟩
 ·have hF:False:=by have h:=h.out;simp at h
  cases hF
 clear h
 cbv
 refine bV.rel arb ⟨⟨P1,P2,P3,P4⟩,k0,k1,k2⟩ (by have dJ:=w1;have rU:=w2;have Da:=w3;have Db:=w4;exact dx) ⟨vu⟩ λy hy=>?_
 have hy:Ky ⟨P1,P2,P3,P4⟩ y:=hy.out
 obtain ⟨⟨Q1,Q2,Q3,Q4⟩,ok⟩:=y
 have BA:ok=true->uk ⟨Q1,Q2,Q3,Q4⟩:=hy.va
 have gV:ok=true->tX ⟨⟨ins,gs,outs,dr⟩,⟨mn,mc,md⟩⟩ ⟨Q1,Q2,Q3,Q4⟩=270:=λh=>FO _ (hy.sp h)
 have YL:ok=true->aV (tX ⟨⟨ins,gs,outs,dr⟩,⟨mn,mc,md⟩⟩ ⟨Q1,Q2,Q3,Q4⟩) 270=true:=λh=>by rw [gV h];rfl
 clear hy
 cbv
 refine ⟨λh=>?_,λh=>?_⟩
 ·cbv
  exact ⟨.refl _⟩
 ·have cg:ok=true:=by
   have h':(!ok)=false:=h.out
   simpa using h'
  have avM:Wm ⟨⟨⟨ins,gs,outs,dr⟩,⟨mn,mc,md⟩⟩,⟨Q1,Q2,Q3,Q4⟩⟩:=⟨Dv,BA cg⟩
  have asR:=YL cg
  clear h
  cbv
  refine ⟨⟨⟨⟨ins,gs,outs,dr⟩,⟨mn,mc,md⟩⟩,⟨Q1,Q2,Q3,Q4⟩⟩,⟨by exact bQ,avM⟩,?_⟩
  cbv
  refine ⟨λh=>?_,λh=>?_⟩
  ·cbv
   exact ⟨.refl _⟩
  ·have hF:False:=by
    have h:=h.out
    rw [asR] at h
    cases h
   cases hF
@[reducible] noncomputable def rfS:Vc.Spec:={ RfS with res:=λ_=>.bc true,fr:=false }
theorem arc:cZ (PP ()) 5 rfS:=cZ.bc asQ λ_=>rfl
theorem Zs {n:Int} (h:IntKind.u8.min<=n/\n<=IntKind.u8.max):0<=n/\n<=255:=by
 simp [IntKind.min,IntKind.max,IntKind.bits,IntKind.signed] at h
 omega
end Go.Proofs.Pk
