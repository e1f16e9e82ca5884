import Derived.Test.YthnhbemmlfaihaaGreatT12
import Derived.Test.YthnhbemmlfaihaaGreatT33
import Derived.Test.YthnhbemmlfaihaaGreatT34
import Derived.Test.YthnhbemmlfaihaaGreatT35
import Derived.Test.YthnhbemmlfaihaaGreatT36
import Derived.Test.YthnhbemmlfaihaaGreatT37
import Derived.Test.YthnhbemmlfaihaaGreatT39
import Derived.Test.YthnhbemmlfaihaaGreatT40
import Derived.Test.YthnhbemmlfaihaaGreatT41
set_option linter.unusedVariables false
set_option linter.unusedSimpArgs false
set_option maxRecDepth 10000
set_option maxHeartbeats 64000000
namespace Go.Proofs.Pk
open Go Go.Vc
theorem anV {P:Unit->Program} {f:FuncId} {S:fO} {T:Vc.Spec} {fn:Func} (I:eM P f S) (F:oa (P ()) f fn) (c:T.α->S.α) (ha:∀a,T.args a=S.args (c a)) (hp:∀a,T.pre a->S.pre (c a)) (hr:∀a y,T.pre a->S.post (c a) y->S.res (c a) y=T.res a) (Yw:∀a,LF (T.res a)) (ou:T.fr=false):cW (P ()) f T where
 fn:=⟨fn,F⟩
 lf:=λa=>by rw [ha];exact I.lf _
 lr:=Yw
 fresh:=λh=>by rw [ou] at h;cases h
 run:=λa fe H F' w vals hH hF od=>by
  rw [ha] at od
  refine (I.run (c a) (hp a fe) H F' w vals hH hF od).mono ?_
  rintro e w' ⟨y,v,H',h1,h2,h3,h4,h5,h6,h7,h8⟩
  rw [hr a y fe h1] at h7
  exact ⟨v,H',h2,h3,h4,h5,h6,h7,h8⟩
open Classical in
noncomputable def vv (p:bt):Bool:=decide (CN p)
@[reducible] noncomputable def U4:Vc.Spec where
 α:=bt
 args x:=[.agg (fB x)]
 pre x:=Bl x
 res x:=.b (λ_=>vv x)
theorem ab5:cW (PP ()) 20 U4:=anV aoL (UD Tryz.func20 (by kernel_rfl)) (λa=>a) (λa=>rfl) (λa h=>h) (λa y _ hy=>by
 have e:vv a=y:=by
  unfold vv
  have hi:=hy.iff
  cases y<;>simp at hi ⊢<;>exact hi
 show SV.b (λ_=>y)=SV.b (λ_=>vv a)
 rw [e]) (λa=>trivial) rfl
open Classical in
noncomputable def AZ (y:ux) (p:bt):Int:=if (uh y).2=0/\CN p/\HW (uh y).1 p then 0 else 270
structure agS where
 y:ux
 p:bt
structure agT (z:agS):Prop where
 pa:Dg z.y
 v:Bl z.p
theorem agU {p q:bt} (hp:Shape p) (hq:Shape q) (h1:p.ins.length<=1000000) (h2:p.outs.length<=1000000) (h3:q.ins.length<=1000000) (h4:q.outs.length<=1000000):L4 ⟨p,q⟩:=by
 have RV:=hp.dK
 have hqb:=hq.dK
 exact ⟨h1,h2,by show p.blocks.length<=1000000;omega,by show p.ay.length<=1000000;rw [hp.pA];exact h2,λx hx=>by have:=(hp.formed x hx).k;omega,
  h3,h4,by show q.blocks.length<=1000000;omega,by show q.ay.length<=1000000;rw [hq.pA];exact h4,λx hx=>by have:=(hq.formed x hx).k;omega,
  λx hx s hs=>⟨(hq.used x hx s hs).lo,(hq.used x hx s hs).hi⟩,λs hs=>⟨(hq.ay s hs).lo,(hq.ay s hs).hi⟩⟩
theorem aaT {n:Net} {m:gL} (hn:eU n):(sw n m).ins.length<=600/\(sw n m).outs.length<=n.outs.length:=by
 have h1:(others n.ins).length<=n.ins.length:=AA _ _
 have h2:(others n.outs).length<=n.outs.length:=AA _ _
 have:=hn.pI
 exact ⟨by show (others n.ins).length<=600;omega,h2⟩
@[reducible] noncomputable def U5:Vc.Spec where
 α:=agS
 args z:=[.agg [.sl 3 dk (λ_=>z.y.n.ins),.sl 5 dE (λ_=>z.y.n.gP),.sl 3 dk (λ_=>z.y.n.outs),.sl 1 bK (λ_=>z.y.n.ay)],.agg [.i .i64 (λ_=>z.y.m.n),.sl 3 rM (λ_=>z.y.m.cells),.sl 1 bK (λ_=>z.y.m.ay)],.agg (fB z.p)]
 pre z:=agT z
 res z:=.i .i64 (λ_=>AZ z.y z.p)
noncomputable def avJ (n m:Nat):Ctx:=eF n m [] [(74,Lf),(20,U4),(24,Qf)]
theorem arl (n m:Nat):CB PP (avJ n m):=eH n m trivial ⟨U3,ab5,aen,trivial⟩
theorem anW:cW (PP ()) 25 U5:=by
 refine dT (arl 0 0) (fo Tryz.func25) (λa=>⟨⟨(λx=>(gU x).1),(λx=>(eO x).1),(λx=>(gU x).1),(λx=>(cP x).1),trivial⟩,⟨trivial,(λx=>(AM x).1),(λx=>(cP x).1),trivial⟩,kE a.p,trivial⟩) (λa=>trivial) ?_
 rintro ⟨⟨⟨ins,gs,outs,dr⟩,⟨mn,mc,md⟩⟩,⟨pins,dU,fk,fc⟩⟩ hx
 have hx:agT ⟨⟨⟨ins,gs,outs,dr⟩,⟨mn,mc,md⟩⟩,⟨pins,dU,fk,fc⟩⟩:=hx
 have Gu:=hx.pa
 have hv:=hx.v
 simp only at Gu hv
 have j2:eU ⟨ins,gs,outs,dr⟩:=Gu.pb.BM
 obtain ⟨R,hR⟩:∃R,AZ ⟨⟨ins,gs,outs,dr⟩,⟨mn,mc,md⟩⟩ ⟨pins,dU,fk,fc⟩=R:=⟨_,rfl⟩
 have kp:U5.res ⟨⟨⟨ins,gs,outs,dr⟩,⟨mn,mc,md⟩⟩,⟨pins,dU,fk,fc⟩⟩=.i .i64 (λ_=>R):=by rw [<-hR]
 rw [kp]
 unfold AZ at hR
 obtain ⟨K,hK⟩:∃K,uh ⟨⟨ins,gs,outs,dr⟩,⟨mn,mc,md⟩⟩=K:=⟨_,rfl⟩
 rw [hK] at hR
 have XW:K.2=0->Shape K.1/\K.1.ins.length<=1000000/\K.1.outs.length<=1000000:=λh2=>by
  rw [<-hK] at h2 ⊢
  unfold uh at h2 ⊢
  by_cases hc:((⟨⟨ins,gs,outs,dr⟩,⟨mn,mc,md⟩⟩:ux).n.ins.length:Int)=(⟨⟨ins,gs,outs,dr⟩,⟨mn,mc,md⟩⟩:ux).m.n/\(⟨⟨ins,gs,outs,dr⟩,⟨mn,mc,md⟩⟩:ux).n.outs.length=(⟨⟨ins,gs,outs,dr⟩,⟨mn,mc,md⟩⟩:ux).m.ay.length
  ·rw [if_pos hc]
   have hs:=aaT (m:=⟨mn,mc,md⟩) j2
   have ho:outs.length<=100000:=Gu.pb.outs
   have h2:(sw ⟨ins,gs,outs,dr⟩ ⟨mn,mc,md⟩).outs.length<=outs.length:=hs.2
   exact ⟨(Um j2 (Gu.map hc.1 hc.2)).1,by have:=hs.1;show (sw ⟨ins,gs,outs,dr⟩ ⟨mn,mc,md⟩).ins.length<=1000000;omega,by show (sw ⟨ins,gs,outs,dr⟩ ⟨mn,mc,md⟩).outs.length<=1000000;omega⟩
  ·rw [if_neg hc] at h2
   cases h2
 have w1:(gV ⟨⟨ins,gs,outs,dr⟩,⟨mn,mc,md⟩⟩).1.ins=K.1.ins:=by rw [y6,hK]
 have w2:(gV ⟨⟨ins,gs,outs,dr⟩,⟨mn,mc,md⟩⟩).1.blocks=K.1.blocks:=by rw [y6,hK]
 have w3:(gV ⟨⟨ins,gs,outs,dr⟩,⟨mn,mc,md⟩⟩).1.outs=K.1.outs:=by rw [y6,hK]
 have w4:(gV ⟨⟨ins,gs,outs,dr⟩,⟨mn,mc,md⟩⟩).1.ay=K.1.ay:=by rw [y6,hK]
 obtain ⟨W,E⟩:=K
 obtain ⟨wi,wb,wo,wd⟩:=W
 simp only at XW w1 w2 w3 w4 hR
 refine ⟨?_⟩
 cbv
 refine ⟨⟨⟨ins,gs,outs,dr⟩,⟨mn,mc,md⟩⟩,⟨by exact bQ,Gu⟩,?_⟩
 cbv
 refine ⟨λh=>?_,λh=>?_⟩
 ·have e:270=R:=by
   have h':(!aV (gV ⟨⟨ins,gs,outs,dr⟩,⟨mn,mc,md⟩⟩).2 0)=true:=h.out
   rw [y6,hK] at h'
   have h2:¬E=0:=by simpa [aV] using h'
   rw [<-hR,if_neg λhc=>h2 hc.1]
  cbv
  exact ⟨by exact aL⟩
 have hE:E=0:=by
  have h':(!aV (gV ⟨⟨ins,gs,outs,dr⟩,⟨mn,mc,md⟩⟩).2 0)=false:=h.out
  rw [y6,hK] at h'
  simpa [aV] using h'
 have Zx:=XW hE
 clear h XW
 cbv
 refine ⟨⟨pins,dU,fk,fc⟩,⟨by exact bQ,hv⟩,?_⟩
 cbv
 refine ⟨λh=>?_,λh=>?_⟩
 ·have e:270=R:=by
   have h':(!vv ⟨pins,dU,fk,fc⟩)=true:=h.out
   rw [<-hR,if_neg λhc=>by
    unfold vv at h'
    simp [hc.2.1] at h']
  cbv
  exact ⟨by exact aL⟩
 have hvo:CN ⟨pins,dU,fk,fc⟩:=by
  have h':(!vv ⟨pins,dU,fk,fc⟩)=false:=h.out
  unfold vv at h'
  simpa using h'
 have sU:L4 ⟨⟨wi,wb,wo,wd⟩,⟨pins,dU,fk,fc⟩⟩:=agU Zx.1 hvo.1 Zx.2.1 Zx.2.2 hv.small.ins hv.outs
 clear h
 cbv
 refine ⟨⟨⟨wi,wb,wo,wd⟩,⟨pins,dU,fk,fc⟩⟩,⟨by have dJ:=w1;have pH:=w2;have yw:=w3;have yx:=w4;exact cQ,sU⟩,?_⟩
 cbv
 refine ⟨λh=>?_,λh=>?_⟩
 ·have e:270=R:=by
   have h':(!zw ⟨wi,wb,wo,wd⟩ ⟨pins,dU,fk,fc⟩)=true:=h.out
   rw [<-hR,if_neg λhc=>by
    unfold zw at h'
    simp [hc.2.2] at h']
  cbv
  exact ⟨by exact aL⟩
 ·have e:0=R:=by
   have h':(!zw ⟨wi,wb,wo,wd⟩ ⟨pins,dU,fk,fc⟩)=false:=h.out
   unfold zw at h'
   rw [<-hR,if_pos ⟨hE,hvo,by simpa using h'⟩]
  cbv
  exact ⟨by exact aL⟩
structure Wv (p:bt):Prop where
 ins:p.ins.length<=1000000
 outs:p.outs.length<=1000000
 ay:p.ay.length<=1000000
 blocks:p.blocks.length<=1000000
 k:∀x∈p.blocks,x.ins.length<=1000000
@[reducible] noncomputable def ai0:Vc.Spec where
 α:=bt
 args p:=[.agg (fB p),.agg (fB p)]
 pre p:=Wv p
 res p:=.b (λ_=>true)
noncomputable def avK (n m:Nat):Ctx:=eF n m [] [(180,V0),(217,ae3)]
theorem afo (n m:Nat):CB PP (avK n m):=eH n m trivial ⟨aea,aoC,trivial⟩
theorem arn:cW (PP ()) 150 ai0:=by
 refine dT (afo 0 0) (fo Tryz.func150) (λa=>⟨kE a,kE a,trivial⟩) (λa=>trivial) ?_
 rintro ⟨ins,blocks,outs,ay⟩ hx
 have hx:Wv ⟨ins,blocks,outs,ay⟩:=hx
 have RM:blocks.length<=1000000:=hx.blocks
 have w1:(⟨ins,ins⟩:nK bU).a.length<=1000000000000/\(⟨ins,ins⟩:nK bU).b.length<=1000000000000:=by have:ins.length<=1000000:=hx.ins;exact ⟨by show ins.length<=_;omega,by show ins.length<=_;omega⟩
 have w2:(⟨outs,outs⟩:nK bU).a.length<=1000000000000/\(⟨outs,outs⟩:nK bU).b.length<=1000000000000:=by have:outs.length<=1000000:=hx.outs;exact ⟨by show outs.length<=_;omega,by show outs.length<=_;omega⟩
 have w3:(⟨ay,ay⟩:nK Int).a.length<=1000000000000/\(⟨ay,ay⟩:nK Int).b.length<=1000000000000:=by have:ay.length<=1000000:=hx.ay;exact ⟨by show ay.length<=_;omega,by show ay.length<=_;omega⟩
 have n1:(!jE ins ins)=true->False:=λh=>by rw [s9.2 rfl] at h;cases h
 have n2:(!jE outs outs)=true->False:=λh=>by rw [s9.2 rfl] at h;cases h
 have n3:(!jE ay ay)=true->False:=λh=>by rw [s9.2 rfl] at h;cases h
 have n4:(!aV (blocks.length:Int) (blocks.length:Int))=true->False:=λh=>by simp [aV] at h
 refine ⟨?_⟩
 cbv
 refine ⟨⟨ins,ins⟩,⟨by exact bQ,w1⟩,?_⟩
 cbv
 refine ⟨λh=>?_,λh=>?_⟩
 ·have hF:=n1 h.out
  cases hF
 clear h
 cbv
 refine ⟨⟨outs,outs⟩,⟨by exact bQ,w2⟩,?_⟩
 cbv
 refine ⟨λh=>?_,λh=>?_⟩
 ·have hF:=n2 h.out
  cases hF
 clear h
 cbv
 refine ⟨⟨ay,ay⟩,⟨by exact bQ,w3⟩,?_⟩
 cbv
 refine ⟨λh=>?_,λh=>?_⟩
 ·have hF:=n3 h.out
  cases hF
 clear h
 cbv
 refine ⟨λh=>?_,λh=>?_⟩
 ·have hF:=n4 h.out
  cases hF
 clear h
 cbv
 refine Sat.cd (afo 0 0) 2 5 [] (λi:Nat=>[(5,.i .i64 (λ_=>(i:Int)))]) (λi=>[]) (λi=>i<=blocks.length) (λi=>blocks.length - i) 0 (by exact ao) (by exact ao) (cL _) ?_
 intro i hi
 have hi:i<=blocks.length:=hi
 have h0:=n0 i
 have h1:=cj (i:=i) (by omega)
 cbv
 refine ⟨λh=>?_,λh=>?_⟩
 ·have bq:i < blocks.length:=bG
  have a7:blocks.length - (i+1) < blocks.length - i:=by omega
  refine (bB bq).elim λx kZ=>?_
  have w4:(⟨x.ins,x.ins⟩:nK Int).a.length<=1000000000000/\(⟨x.ins,x.ins⟩:nK Int).b.length<=1000000000000:=by have:x.ins.length<=1000000:=hx.k x (cb kZ);exact ⟨by show x.ins.length<=_;omega,by show x.ins.length<=_;omega⟩
  have m1:(!jE x.ins x.ins)=true->False:=λh=>by rw [s9.2 rfl] at h;cases h
  have m2:∀v:Int,(!aV v v)=true->False:=λv h=>by simp [aV] at h
  cbv
  refine ⟨x,⟨h0,kZ⟩,?_⟩
  cbv
  refine ⟨x,⟨h0,kZ⟩,?_⟩
  cbv
  refine ⟨⟨x.ins,x.ins⟩,⟨by exact bQ,w4⟩,?_⟩
  cbv
  refine ⟨λh=>?_,λh=>?_⟩
  ·have hF:=m1 h.out
   cases hF
  clear h
  cbv
  refine ⟨λh=>?_,λh=>?_⟩
  ·have hF:=m2 _ h.out
   cases hF
  clear h
  cbv
  refine ⟨λh=>?_,λh=>?_⟩
  ·have hF:=m2 _ h.out
   cases hF
  clear h
  cbv
  refine ⟨λh=>?_,λh=>?_⟩
  ·have hF:=m2 _ h.out
   cases hF
  clear h
  cbv
  refine ⟨λh=>?_,λh=>?_⟩
  ·have hF:=m2 _ h.out
   cases hF
  clear h
  cbv
  exact ⟨i+1,by exact ao,by exact ao,⟨⟨bq,a7⟩⟩⟩
 ·cbv
  exact ⟨by exact aL⟩
def ny:Net:=⟨[⟨1,0,0⟩],[⟨1,2,0,0,0⟩],[⟨1,0,0⟩],[3]⟩
def lF:gL:=⟨1,[⟨[2],1,-1⟩],[3]⟩
def Zy (K:Int):Block:=⟨[1],1,-1,0,K⟩
def fl (K:Int):bt:=⟨[],[Zy K],[],[]⟩
theorem afp:eU ny:=by
 refine ⟨by decide,λw hw=>?_,λi g hg=>?_,λw hw=>?_,by decide,by decide,λw hw=>xC,rfl,λd hd=>?_⟩
 ·simp [ny] at hw;subst hw;exact ⟨⟨by decide,by decide,by decide,by decide,by decide⟩,by decide⟩
 ·cases i with
  | zero=>simp [ny] at hg;subst hg;exact ⟨by decide,by decide,by decide,by decide,by decide⟩
  | succ i=>simp [ny] at hg
 ·simp [ny] at hw;subst hw;exact ⟨⟨by decide,by decide,by decide,by decide,by decide⟩,.inl rfl⟩
 ·simp [ny] at hd;subst hd;decide
theorem afq:jI ny lF:=by
 refine ⟨rfl,by decide,λi c hc=>?_,rfl,λd hd=>?_⟩
 ·cases i with
  | zero =>
   simp [lF] at hc;subst hc
   exact ⟨λs hs=>by simp at hs;subst hs;decide,.inl ⟨rfl,by decide,by decide,by decide⟩⟩
  | succ i=>simp [lF] at hc
 ·simp [lF] at hd;subst hd;decide
theorem aro:l9 ny lF=fl 0:=by rfl
theorem aeo:sw ny lF=fl (iw [1,0]):=by
 unfold sw
 rw [aro]
 rfl
theorem ao0:uh ⟨ny,lF⟩=(fl (iw [1,0]),0):=by
 unfold uh
 rw [if_pos ⟨rfl,rfl⟩,aeo]
theorem VA:CN (fl (iw [1,0])):=by
 obtain ⟨h1,h2,_⟩:=Um afp afq
 rw [aeo] at h1 h2
 exact ⟨h1,_,h2⟩
theorem ao1:lx (fl (iw [1,0]))=[iw [1,0]]:=by rfl
theorem ao2:HW (fl (iw [1,0])) (fl (iw [1,0])):=(anI VA.1).2 (by unfold y5;simp [jS,fl])
theorem ap7:(zu (fl (iw [1,0])) [] ⟨[1],[]⟩)[0]?=some false:=by
 obtain ⟨_,r,hr⟩:=VA
 have h0:=ac3 hr [] ⟨[1],[]⟩ 0
 have h1:Iw (fl (iw [1,0])) [] ⟨[1],[]⟩ (Da (fl (iw [1,0])) [] ⟨[1],[]⟩) 0=zt 1 [FN 1 0]:=rfl
 have h2:zt 1 [FN 1 0]=false:=by decide
 show some (yf _ _ _ _ 0)=_
 have h3:yf (fl (iw [1,0])) [] ⟨[1],[]⟩ (Da (fl (iw [1,0])) [] ⟨[1],[]⟩) 0=Da (fl (iw [1,0])) [] ⟨[1],[]⟩ 0:=rfl
 exact congrArg some (h3.trans (h0.trans (h1.trans h2)))
def zL:bt:=⟨[],[⟨[0],1,-1,-1,0⟩],[],[]⟩
theorem ap8:¬CN zL:=by
 rintro ⟨_,r,hr⟩
 have h:r 0 < r 0:=hr 0 _ rfl 0 (Ch.2 rfl) (by decide) (by decide)
 exact Oc _ h
theorem XX:Dg ⟨ny,lF⟩:=⟨⟨afp,by decide,by decide⟩,λ_ _=>afq⟩
theorem ap9:eU ⟨[],[],[],[]⟩:=⟨by decide,λw hw=>by simp at hw,λi g hg=>by simp at hg,λw hw=>by simp at hw,by decide,by decide,λw _=>xC,rfl,λd hd=>by simp at hd⟩
theorem pa0:Dg ⟨⟨[],[],[],[]⟩,lF⟩:=⟨⟨ap9,by decide,by decide⟩,λh=>by simp [lF] at h⟩
theorem aqa:uh ⟨⟨[],[],[],[]⟩,lF⟩=(⟨[],[],[],[]⟩,270):=by
 unfold uh
 rw [if_neg λh=>by simp [lF] at h]
theorem ai1 (K:Int):Bl (fl K):=⟨⟨by simp [fl],by simp [fl]⟩,by simp [fl],by simp [fl],λx hx=>by simp [fl] at hx;subst hx;simp [Zy]⟩
theorem va0:Bl ⟨[],[],[],[]⟩:=⟨⟨by simp,by simp⟩,by simp,by simp,λx hx=>by simp at hx⟩
theorem avL:Bl zL:=⟨⟨by simp [zL],by simp [zL]⟩,by simp [zL],by simp [zL],λx hx=>by simp [zL] at hx;subst hx;simp⟩
@[reducible] noncomputable def ExS:Vc.Spec where
 α:=Unit
 args u:=[]
 pre u:=True
 res u:=.b (λ_=>true)
noncomputable def cEx (n m:Nat):Ctx:=eF n m [(16,Tryz.f16),(65,Tryz.f65)] [(27,KK),(74,Lf),(150,ai0),(20,U4),(24,Qf),(26,Qe),(66,aeb),(25,U5),(67,afk),(21,agN)]
theorem as2 (n m:Nat):CB PP (cEx n m):=eH n m ⟨fo Tryz.func16,fo Tryz.func65,trivial⟩ ⟨Un,U3,arn,ab5,aen,U2,anF,anW,aoV,ap5,trivial⟩
theorem as3:cW (PP ()) 11 ExS:=by
 refine dT (as2 0 0) (fo Tryz.func11) (λa=>trivial) (λa=>trivial) ?_
 intro u hx
 clear hx
 obtain ⟨K,hK⟩:∃K,iw [1,0]=K:=⟨_,rfl⟩
 have hp:=ao0
 have oT:=VA
 have vH:=ao1
 have yn:=ao2
 have IN:=ap7
 rw [hK] at hp oT vH yn IN
 have M3:gV ⟨ny,lF⟩=(fl K,0):=by rw [y6,hp]
 have FX:gV ⟨⟨[],[],[],[]⟩,lF⟩=(⟨[],[],[],[]⟩,270):=by rw [y6,aqa]
 have w1:(gV ⟨ny,lF⟩).1.ins=(fl K).ins:=by rw [M3]
 have w2:(gV ⟨ny,lF⟩).1.blocks=(fl K).blocks:=by rw [M3]
 have w3:(gV ⟨ny,lF⟩).1.outs=(fl K).outs:=by rw [M3]
 have w4:(gV ⟨ny,lF⟩).1.ay=(fl K).ay:=by rw [M3]
 have heq:Wv (fl K):=⟨by simp [fl],by simp [fl],by simp [fl],by simp [fl],λx hx=>by simp [fl] at hx;subst hx;simp [Zy]⟩
 have hvB:(!vv (fl K))=true->False:=λh=>by unfold vv at h;simp [oT] at h
 have sU:L4 ⟨fl K,fl K⟩:=agU oT.1 oT.1 (by simp [fl]) (by simp [fl]) (by simp [fl]) (by simp [fl])
 have hsB:(!zw (fl K) (fl K))=true->False:=λh=>by unfold zw at h;simp [yn] at h
 have pL:De (fl K):=⟨oT.1,oT.2,by simp [fl]⟩
 have db:(⟨[K],[K]⟩:nK Int).a.length<=1000000000000/\(⟨[K],[K]⟩:nK Int).b.length<=1000000000000:=⟨by simp,by simp⟩
 have hkB:(!jE [K] [K])=true->False:=λh=>by rw [s9.2 rfl] at h;cases h
 have lC:AZ ⟨ny,lF⟩ (fl K)=0:=by unfold AZ;rw [hp,if_pos ⟨rfl,oT,yn⟩]
 have oS:AZ ⟨ny,lF⟩ ⟨[],[],[],[]⟩=270:=by
  unfold AZ;rw [hp,if_neg λh=>by have:=h.2.2.len;simp [fl] at this]
 have avM:(!aV (AZ ⟨ny,lF⟩ (fl K)) 0)=true->False:=λh=>by rw [lC] at h;simp [aV] at h
 have avN:(!aV (AZ ⟨ny,lF⟩ ⟨[],[],[],[]⟩) 270)=true->False:=λh=>by rw [oS] at h;simp [aV] at h
 have Gr:XP ⟨fl K,[1],[0]⟩:=⟨pL,rfl,rfl,by show ([1]:List Int).length<=1000000;decide,λb y hy _=>by
  cases b with
  | zero=>exact IN
  | succ b=>simp [fl] at hy,rfl⟩
 have z9:XM ⟨false,⟨[0],[]⟩,[],[]⟩:=⟨by decide,by decide,λm hm=>by simp at hm,by decide,rfl⟩
 have hlB:vv zL=false:=by unfold vv;simp [ap8]
 refine ⟨?_⟩
 cbv
 refine ⟨[1,0],⟨.inl ⟨by exact bQ,rfl⟩,by decide⟩,?_⟩
 cbv
 refine ⟨⟨ny,lF⟩,⟨.inl ⟨by exact bQ,rfl⟩,XX⟩,?_⟩
 cbv
 refine ⟨λh=>?_,λh=>?_⟩
 rotate_left
 ·have hF:False:=by
   have h:=h.out
   rw [show aV (gV ⟨ny,lF⟩).2 0=true by rw [M3];rfl] at h
   cases h
  cases hF
 clear h
 cbv
 refine ⟨fl K,⟨.inl ⟨by have dJ:=w1;have pH:=w2;have yw:=w3;have yx:=w4;have bm:=hK;exact cQ,rfl⟩,heq⟩,?_⟩
 cbv
 refine ⟨λh=>?_,λh=>?_⟩
 ·have hF:False:=by have h:=h.out;simp at h
  cases hF
 clear h
 cbv
 refine ⟨fl K,⟨.inl ⟨by have bm:=hK;exact cQ,rfl⟩,ai1 K⟩,?_⟩
 cbv
 refine ⟨λh=>?_,λh=>?_⟩
 ·have hF:=hvB h.out
  cases hF
 clear h
 cbv
 refine ⟨⟨fl K,fl K⟩,⟨.inl ⟨by have bm:=hK;exact cQ,rfl⟩,sU⟩,?_⟩
 cbv
 refine ⟨λh=>?_,λh=>?_⟩
 ·have hF:=hsB h.out
  cases hF
 clear h
 cbv
 refine ⟨fl K,⟨.inl ⟨by have bm:=hK;exact cQ,rfl⟩,pL⟩,?_⟩
 cbv
 refine ⟨⟨[K],[K]⟩,⟨.inl ⟨by have dJ:=vH;have bm:=hK;exact cQ,rfl⟩,db⟩,?_⟩
 cbv
 refine ⟨λh=>?_,λh=>?_⟩
 ·have hF:=hkB h.out
  cases hF
 clear h
 cbv
 refine ⟨⟨⟨ny,lF⟩,fl K⟩,⟨.inl ⟨by have bm:=hK;exact cQ,rfl⟩,XX,ai1 K⟩,?_⟩
 cbv
 refine ⟨λh=>?_,λh=>?_⟩
 ·have hF:=avM h.out
  cases hF
 clear h
 cbv
 refine ⟨⟨⟨ny,lF⟩,⟨[],[],[],[]⟩⟩,⟨.inl ⟨by have bm:=hK;exact cQ,rfl⟩,XX,va0⟩,?_⟩
 cbv
 refine ⟨λh=>?_,λh=>?_⟩
 ·have hF:=avN h.out
  cases hF
 clear h
 cbv
 refine ⟨⟨fl K,[1],[0]⟩,⟨.inl ⟨by have bm:=hK;exact cQ,rfl⟩,Gr⟩,?_⟩
 cbv
 refine ⟨⟨false,⟨[0],[]⟩,[],[]⟩,⟨.inl ⟨by exact bQ,rfl⟩,z9⟩,?_⟩
 cbv
 refine ⟨λh=>?_,λh=>?_⟩
 rotate_left
 ·have hF:False:=by have h:=h.out;simp at h
  cases hF
 clear h
 cbv
 refine ⟨zL,⟨.inl ⟨by exact bQ,rfl⟩,avL⟩,?_⟩
 cbv
 refine ⟨λh=>?_,λh=>?_⟩
 rotate_left
 ·have hF:False:=by have h:(!vv zL)=false:=h.out;rw [hlB] at h;cases h
  cases hF
 clear h
 cbv
 refine ⟨⟨⟨[],[],[],[]⟩,lF⟩,⟨.inl ⟨by exact bQ,rfl⟩,pa0⟩,?_⟩
 cbv
 have rO:aV (gV ⟨⟨[],[],[],[]⟩,lF⟩).2 270=true:=by rw [FX];rfl
 exact ⟨by have jW:=rO;exact dy⟩
def oJ (b:List Int) (i:Nat):Nat:=if i < b.length then ((b.getD i 0) % ((i:Int)+1)).toNat else 0
def nk (b:List Int):Nat->List Int
 | 0=>[]
 | i+1=>(nk b i).take (oJ b i)++[(i:Int)]++(nk b i).drop (oJ b i)
theorem Us (b:List Int):∀(i:Nat) (x:Int),x∈nk b i↔0<=x/\x < i
 | 0,x=>by simp [nk]
 | i+1,x=>by
  have h1:x∈nk b (i+1)↔x∈nk b i\/x=i:=by
   show x∈(nk b i).take (oJ b i)++[(i:Int)]++(nk b i).drop (oJ b i)↔_
   have h2:x∈nk b i↔x∈(nk b i).take (oJ b i)\/x∈(nk b i).drop (oJ b i):=by
    rw [<-List.mem_append,List.take_append_drop]
   rw [h2]
   simp only [List.mem_append,Ch]
   constructor
   ·rintro ((h|h)|h)
    ·exact .inl (.inl h)
    ·exact .inr h
    ·exact .inl (.inr h)
   ·rintro ((h|h)|h)
    ·exact .inl (.inl h)
    ·exact .inr h
    ·exact .inl (.inr h)
  rw [h1,Us b i x]
  omega
theorem Ut (b:List Int):∀i,(nk b i).length=i
 | 0=>rfl
 | i+1=>by
  show ((nk b i).take (oJ b i)++[(i:Int)]++(nk b i).drop (oJ b i)).length=_
  have h:=Ut b i
  have h2:=congrArg List.length (List.take_append_drop (oJ b i) (nk b i))
  simp only [gk,nZ] at h2 ⊢
  omega
theorem aep (b:List Int):∀i,(nk b i).Nodup
 | 0=>Ep
 | i+1=>by
  show ((nk b i).take (oJ b i)++[(i:Int)]++(nk b i).drop (oJ b i)).Nodup
  have hn:=aep b i
  have hi:(i:Int)∉nk b i:=λh=>by have:=(Us b i _).1 h;omega
  rw [<-List.take_append_drop (oJ b i) (nk b i)] at hn hi
  obtain ⟨h1,h2,h3⟩:=Ek.1 hn
  refine Ek.2 ⟨Ek.2 ⟨h1,by simp,λa ha c hc e=>?_⟩,h2,λa ha c hc e=>?_⟩
  ·simp at hc;subst hc;subst e;exact hi (List.mem_append.2 (.inl ha))
  ·rcases List.mem_append.1 ha with h|h
   ·exact h3 a h c hc e
   ·simp at h;subst h;subst e;exact hi (List.mem_append.2 (.inr hc))
theorem aqb (b:List Int) (n:Nat):lM n (nk b n):=⟨Ut b n,λx hx=>(Us b n x).1 hx,aep b n⟩
theorem agV:∃f:List Int->Nat->List Int,f=nk:=⟨_,rfl⟩
noncomputable def L9:List Int->Nat->List Int:=Classical.choose agV
theorem aeq:L9=nk:=xF agV
structure ai2 where
 n:Nat
 b:List Int
structure XY (x:ai2):Prop where
 n:x.n<=1000000
 b:∀z∈x.b,0<=z/\z<=255
@[reducible] noncomputable def XZ:Vc.Spec where
 α:=ai2
 args x:=[.i .i64 (λ_=>(x.n:Int)),.sl 1 iN (λ_=>x.b)]
 pre x:=XY x
 res x:=.sl 1 bK (λ_=>L9 x.b x.n)
noncomputable def avO (n m:Nat):Ctx:=eF n m [] [] [] [] [4]
theorem afr (n m:Nat):CB PP (avO n m):=eH n m trivial trivial
noncomputable def as4 (n m:Nat):Ctx:=eF n m [] []
theorem aer (n m:Nat):CB PP (as4 n m):=eH n m trivial trivial
theorem arp:cW (PP ()) 19 XZ:=by
 refine dT (afr 0 0) (fo Tryz.func19) (λa=>⟨trivial,(λx=>(sq x).1),trivial⟩) (λa=>(λx=>(cP x).1)) ?_
 rintro ⟨n,b⟩ hx
 have hx:XY ⟨n,b⟩:=hx
 have hn6:n<=1000000:=hx.n
 have hb:∀z∈b,0<=z/\z<=255:=hx.b
 obtain ⟨L,hL⟩:∃L:Nat->List Int,∀i,L i=nk b i:=⟨_,λ_=>rfl⟩
 have zX:[]=L 0:=by rw [hL];rfl
 have I4:∀i,(L i).length=i:=λi=>by rw [hL,Ut]
 obtain ⟨R,hR⟩:∃R,L9 b n=R:=⟨_,rfl⟩
 have kp:XZ.res ⟨n,b⟩=.sl 1 bK (λ_=>R):=by rw [<-hR]
 rw [kp]
 have hRn:L n=R:=by rw [hL,<-hR,aeq]
 refine ⟨?_⟩
 cbv
 refine Sat.cd (afr 0 0) 1 5 [(.t 5,0)] (λi:Nat=>[(5,.own 0),(6,.i .i64 (λ_=>(i:Int)))]) (λi=>[(0,.dyn 3 1 bK (λ_=>L i))]) (λi=>i<=n) (λi=>n - i) 0 (by exact ao) (by have dP:=zX;exact bI) (cL _) ?_
 intro i hi
 have hi:i<=n:=hi
 have h0:=n0 i
 have h1:=cj (i:=i) (by omega)
 cbv
 refine ⟨λh=>?_,λh=>?_⟩
 ·have bq:i < n:=bG
  have a7:n - (i+1) < n - i:=by omega
  have hLi:=I4 i
  have iL:oJ b i<=i:=by
   unfold oJ
   split
   ·have:=Int.emod_lt_of_pos (b.getD i 0) (show (0:Int) < (i:Int)+1 by omega)
    omega
   ·omega
  have fin:∀a:Int,a=(oJ b i:Int)->(0<=(0:Int)/\(0:Int)<=a/\a<=((L i).length:Int))/\(0<=a/\a<=((L i).length:Int)/\((L i).length:Int)<=((L i).length:Int))/\(((L i).take a.toNat).drop (0:Int).toNat).length+(((L i).take ((L i).length:Int).toNat).drop a.toNat).length<=2000000/\((L i).take a.toNat).drop (0:Int).toNat++[(i:Int)]++((L i).take ((L i).length:Int).toNat).drop a.toNat=L (i+1):=λa ha=>by
   subst ha
   refine ⟨by omega,by omega,?_,?_⟩
   ·simp only [vY,kB];omega
   ·rw [hL (i+1),pf,pf,Et (cR _)]
    show ((L i).take (oJ b i)).drop 0++[(i:Int)]++(L i).drop (oJ b i)=_
    rw [Tu,hL];rfl
  cbv
  refine ⟨λh=>?_,λh=>?_⟩
  ·have Jf:i < b.length:=bG
   refine (bB Jf).elim λv hv=>?_
   have Ra:=hb v (cb hv)
   have fH:IntKind.i64.wrap v=v:=cD (by omega) (by omega)
   have w6:IntKind.i64.wrap ((i:Int)+1)=(i:Int)+1:=cD (by omega) (by omega)
   have cT:¬IntKind.i64.wrap ((i:Int)+1)=0:=by rw [w6];omega
   obtain ⟨q,hq⟩:∃q,(IntKind.i64.wrap v).tmod (IntKind.i64.wrap ((i:Int)+1))=q:=⟨_,rfl⟩
   have Zz:q=(oJ b i:Int):=by
    rw [<-hq,fH,w6,xD (by omega)]
    unfold oJ
    rw [if_pos Jf,ig,hv,n6]
    have:=Int.emod_nonneg v (show ((i:Int)+1)≠0 by omega)
    omega
   obtain ⟨f1,f2,f3,f4⟩:=fin ((IntKind.i64.wrap v).tmod (IntKind.i64.wrap ((i:Int)+1))) (hq.trans Zz)
   obtain ⟨A,hA⟩:∃A,((L i).take (((IntKind.i64.wrap v).tmod (IntKind.i64.wrap ((i:Int)+1)))).toNat).drop (0:Int).toNat=A:=⟨_,rfl⟩
   obtain ⟨B,hB⟩:∃B,((L i).take ((L i).length:Int).toNat).drop (((IntKind.i64.wrap v).tmod (IntKind.i64.wrap ((i:Int)+1)))).toNat=B:=⟨_,rfl⟩
   rw [hA,hB] at f3 f4
   have z1:(0+A.length)*8<=140737488355328:=by omega
   have z2:0+A.length<=9223372036854775807:=by omega
   have z3:(([]++A).length+1)*8<=140737488355328:=by rw [lg];omega
   have z4:([]++A).length+1<=9223372036854775807:=by rw [lg];omega
   have z5:(([]++A++[(i:Int)]).length+B.length)*8<=140737488355328:=by simp only [lg,gk,nZ];omega
   have z6:([]++A++[(i:Int)]).length+B.length<=9223372036854775807:=by simp only [lg,gk,nZ];omega
   have f4:[]++A++[(i:Int)]++B=L (i+1):=by rw [lg];exact f4
   cbv
   refine ⟨v,⟨h0,hv⟩,?_⟩
   cbv
   refine ⟨⟨cT⟩,?_⟩
   cbv
   refine ⟨⟨f1⟩,?_⟩
   cbv
   refine ⟨A,⟨by have dJ:=hA;exact dy,z1,z2⟩,?_⟩
   cbv
   refine ⟨[(i:Int)],⟨by exact bQ,z3,z4⟩,?_⟩
   cbv
   refine ⟨⟨f2⟩,?_⟩
   cbv
   refine ⟨B,⟨by have dJ:=hB;exact dy,z5,z6⟩,?_⟩
   cbv
   refine Sat.kill 0 ?_
   refine Sat.uH (aer 0 0) ?_
   cbv
   exact ⟨i+1,by exact ao,by have dP:=f4;exact bI,⟨⟨bq,a7⟩⟩⟩
  ·have Jf:¬i < b.length:=bG
   have Zz:(0:Int)=(oJ b i:Int):=by unfold oJ;rw [if_neg Jf];rfl
   obtain ⟨f1,f2,f3,f4⟩:=fin (0:Int) Zz
   obtain ⟨A,hA⟩:∃A,((L i).take ((0:Int)).toNat).drop (0:Int).toNat=A:=⟨_,rfl⟩
   obtain ⟨B,hB⟩:∃B,((L i).take ((L i).length:Int).toNat).drop ((0:Int)).toNat=B:=⟨_,rfl⟩
   rw [hA,hB] at f3 f4
   have z1:(0+A.length)*8<=140737488355328:=by omega
   have z2:0+A.length<=9223372036854775807:=by omega
   have z3:(([]++A).length+1)*8<=140737488355328:=by rw [lg];omega
   have z4:([]++A).length+1<=9223372036854775807:=by rw [lg];omega
   have z5:(([]++A++[(i:Int)]).length+B.length)*8<=140737488355328:=by simp only [lg,gk,nZ];omega
   have z6:([]++A++[(i:Int)]).length+B.length<=9223372036854775807:=by simp only [lg,gk,nZ];omega
   have f4:[]++A++[(i:Int)]++B=L (i+1):=by rw [lg];exact f4
   cbv
   refine ⟨⟨f1⟩,?_⟩
   cbv
   refine ⟨A,⟨by have dJ:=hA;exact dy,z1,z2⟩,?_⟩
   cbv
   refine ⟨[(i:Int)],⟨by exact bQ,z3,z4⟩,?_⟩
   cbv
   refine ⟨⟨f2⟩,?_⟩
   cbv
   refine ⟨B,⟨by have dJ:=hB;exact dy,z5,z6⟩,?_⟩
   cbv
   refine Sat.kill 0 ?_
   refine Sat.uH (aer 0 0) ?_
   cbv
   exact ⟨i+1,by exact ao,by have dP:=f4;exact bI,⟨⟨bq,a7⟩⟩⟩
 have bS:i=n:=by
  have h':aS i n=false:=h.out
  have h2:¬(i:Int) < n:=by simpa [aS] using h'
  omega
 have MJ:L i=R:=by rw [bS,hRn]
 clear h
 cbv
 exact ⟨by have dJ:=MJ;exact dy⟩
structure ai3 where
 p:bt
 s:Int
 l:List Int
structure X0 (x:ai3):Prop where
 ins:x.p.ins.length<=1000000
 dK:x.p.blocks.length<=1000000
 lo:0<=x.s
 hi:x.s < x.p.sigs
 len:x.l.length=x.p.blocks.length
 Je:∀v∈x.l,0<=v/\v<=1000000
@[reducible] noncomputable def QY:Vc.Spec where
 α:=ai3
 args x:=[.agg (fB x.p),.i .i64 (λ_=>x.s),.sl 1 bK (λ_=>x.l)]
 pre x:=X0 x
 res x:=.i .i64 (λ_=>nL x.p x.l x.s)
noncomputable def avP (n m:Nat):Ctx:=eF n m [] [(174,OY)]
theorem arq (n m:Nat):CB PP (avP n m):=eH n m trivial ⟨TT,trivial⟩
theorem afs:cW (PP ()) 79 QY:=by
 refine dT (arq 0 0) (fo Tryz.func79) (λa=>⟨kE a.p,trivial,(λx=>(cP x).1),trivial⟩) (λa=>trivial) ?_
 rintro ⟨⟨ins,blocks,outs,ay⟩,s,l⟩ hx
 have hx:X0 ⟨⟨ins,blocks,outs,ay⟩,s,l⟩:=hx
 have gY:ins.length<=1000000:=hx.ins
 have RM:blocks.length<=1000000:=hx.dK
 have h0:0<=s:=hx.lo
 have h1:s < (ins.length:Int)+2*(blocks.length:Int):=hx.hi
 have mq:l.length=blocks.length:=hx.len
 have yD:∀v∈l,0<=v/\v<=1000000:=hx.Je
 clear hx
 obtain ⟨R,hR⟩:∃R,nL ⟨ins,blocks,outs,ay⟩ l s=R:=⟨_,rfl⟩
 have kp:QY.res ⟨⟨ins,blocks,outs,ay⟩,s,l⟩=.i .i64 (λ_=>R):=by rw [<-hR]
 rw [kp]
 unfold nL at hR
 simp only at hR
 have DL:FQ ⟨ins,blocks,outs,ay⟩ s:=⟨gY,h0,by omega⟩
 have sP:¬s < (ins.length:Int)->∃v,(0<=mb ⟨ins,blocks,outs,ay⟩ s/\l[(mb ⟨ins,blocks,outs,ay⟩ s).toNat]?=some v)/\IntKind.i64.wrap (IntKind.i64.wrap ((ins.length:Int)+IntKind.i64.wrap (2*v))+(IntKind.i64.wrap (s - (ins.length:Int))).tmod 2)=R:=λbS=>by
  have aR:cN ins.length s < l.length:=by unfold cN;omega
  have zY:mb ⟨ins,blocks,outs,ay⟩ s=(cN ins.length s:Int):=by unfold mb;rw [if_neg bS]
  obtain ⟨v,hv⟩:=bB aR
  have Mw:=yD v (cb hv)
  refine ⟨v,⟨by rw [zY];omega,by rw [zY,pf];exact hv⟩,?_⟩
  rw [if_neg bS,ig,hv,n6] at hR
  have fH:IntKind.i64.wrap (s - (ins.length:Int))=s - (ins.length:Int):=cD (by omega) (by omega)
  rw [fH,xD (by omega),cD (n:=2*v) (by omega) (by omega),cD (n:=(ins.length:Int)+2*v) (by omega) (by omega),cD (by omega) (by omega)]
  exact hR
 refine ⟨?_⟩
 cbv
 refine ⟨λh=>?_,λh=>?_⟩
 ·have aR:s < (ins.length:Int):=bG
  rw [if_pos aR] at hR
  cbv
  exact ⟨by exact aL⟩
 have bS:¬s < (ins.length:Int):=bG
 obtain ⟨v,hv,hw⟩:=sP bS
 clear h sP
 cbv
 refine ⟨⟨⟨ins,blocks,outs,ay⟩,s⟩,⟨by exact bQ,DL⟩,?_⟩
 cbv
 refine ⟨v,⟨hv⟩,?_⟩
 cbv
 refine ⟨⟨by decide⟩,?_⟩
 cbv
 exact ⟨by exact aL⟩
structure ai4 where
 p:bt
 l:List Int
structure X1 (x:ai4):Prop where
 ins:x.p.ins.length<=1000000
 dK:x.p.blocks.length<=1000000
 yG:x.p.ay.length<=1000000
 perm:lM x.p.blocks.length x.l
 k:∀y∈x.p.blocks,y.ins.length<=1000000
 used:∀y∈x.p.blocks,∀s∈y.ins,0<=s/\s < x.p.sigs
 ay:∀s∈x.p.ay,0<=s/\s < x.p.sigs
theorem agW:∃f:bt->List Int->bt,f=n9:=⟨_,rfl⟩
noncomputable def zM:bt->List Int->bt:=Classical.choose agW
theorem U6:zM=n9:=xF agW
@[reducible] noncomputable def X2:Vc.Spec where
 α:=ai4
 args x:=[.agg (fB x.p),.sl 1 bK (λ_=>x.l)]
 pre x:=X1 x
 res x:=.agg (fB (zM x.p x.l))
def uF (p:bt) (l:List Int) (i:Nat):List Block:=((l.zip p.blocks).take i).foldl (λb u=>b.set u.1.toNat (AW p l u.2)) (List.replicate p.blocks.length FO)
theorem ao3 {p:bt} {l:List Int} {i:Nat} {v:Int} {x:Block} (hv:l[i]?=some v) (hx:p.blocks[i]?=some x):(uF p l i).set v.toNat ⟨x.ins.map (nL p l),x.table,x.b9,x.bh,x.key⟩=uF p l (i+1):=by
 unfold uF
 have hz:(l.zip p.blocks)[i]?=some (v,x):=NU.2 ⟨hv,hx⟩
 rw [Hm _ _ hz]
 rfl
theorem aqc (p:bt) (l:List Int) (i:Nat):(uF p l i).length=p.blocks.length:=by unfold uF;rw [SN,si]
noncomputable def cMv (n m:Nat):Ctx:=eF n m [] [(79,QY)] [] [] [11]
theorem Qh (n m:Nat):CB PP (cMv n m):=eH n m trivial ⟨afs,trivial⟩
noncomputable def avQ (n m:Nat):Ctx:=eF n m [] [(79,QY)]
theorem ars (n m:Nat):CB PP (avQ n m):=eH n m trivial ⟨afs,trivial⟩
theorem art:cW (PP ()) 18 X2:=by
 refine dT (Qh 0 0) (fo Tryz.func18) (λa=>⟨kE a.p,(λx=>(cP x).1),trivial⟩) (λa=>kE _) ?_
 rintro ⟨⟨ins,blocks,outs,ay⟩,l⟩ hx
 have hx:X1 ⟨⟨ins,blocks,outs,ay⟩,l⟩:=hx
 have gY:ins.length<=1000000:=hx.ins
 have RM:blocks.length<=1000000:=hx.dK
 have Jb:ay.length<=1000000:=hx.yG
 have Ag:lM blocks.length l:=hx.perm
 have mq:l.length=blocks.length:=Ag.len
 have I6:∀s,0<=s->s < (⟨ins,blocks,outs,ay⟩:bt).sigs->X0 ⟨⟨ins,blocks,outs,ay⟩,s,l⟩:=λs h0 h1=>⟨gY,RM,h0,h1,mq,λv hv=>by have:=Ag.Je v hv;omega⟩
 obtain ⟨N,hN⟩:∃N,nL ⟨ins,blocks,outs,ay⟩ l=N:=⟨_,rfl⟩
 obtain ⟨B,hB⟩:∃B:Nat->List Block,∀i,B i=uF ⟨ins,blocks,outs,ay⟩ l i:=⟨_,λ_=>rfl⟩
 have hBl:∀i,(B i).length=blocks.length:=λi=>by rw [hB,aqc]
 obtain ⟨R,hR⟩:∃R,zM ⟨ins,blocks,outs,ay⟩ l=R:=⟨_,rfl⟩
 have kp:X2.res ⟨⟨ins,blocks,outs,ay⟩,l⟩=.agg (fB R):=by rw [<-hR]
 rw [kp]
 have xq:R=⟨ins,B blocks.length,outs,ay.map N⟩:=by
  rw [<-hR,U6,hB,<-hN]
  unfold n9 uF
  have hz:(l.zip blocks).length=blocks.length:=by rw [List.length_zip,mq,Nat.min_self]
  show _=(⟨ins,((l.zip blocks).take blocks.length).foldl _ _,outs,_⟩:bt)
  rw [<-hz,kC]
 have rZ:List.replicate ((blocks.length:Int)).toNat (⟨[],0,0,0,0⟩:Block)=B 0:=by rw [hB,pf];rfl
 have eI:0<=(blocks.length:Int)/\56*(blocks.length:Int)<=281474976710656/\(blocks.length:Int)<=9223372036854775807:=by omega
 refine ⟨?_⟩
 cbv
 refine ⟨⟨eI.1,jR _,eI.2.1,eI.2.2⟩,?_⟩
 cbv
 refine Sat.cd (Qh 0 0) 4 6 [] (λi:Nat=>[(6,.i .i64 (λ_=>(i:Int)))]) (λi=>[(2,.dyn 76 5 oD (λ_=>B i))]) (λi=>i<=blocks.length) (λi=>blocks.length - i) 0 (by exact ao) (by have j6:=rZ;have dP:=rZ;exact bI) (cL _) ?_
 intro i hi
 have hi:i<=blocks.length:=hi
 have h0:=n0 i
 have h1:=cj (i:=i) (by omega)
 cbv
 refine ⟨λh=>?_,λh=>?_⟩
 ·have bq:i < blocks.length:=bG
  have a7:blocks.length - (i+1) < blocks.length - i:=by omega
  refine (bB bq).elim λx kZ=>?_
  have gW:=cb kZ
  have mu:x.ins.length<=1000000:=hx.k x gW
  have yH:=hx.used x gW
  obtain ⟨M,hM⟩:∃M:Nat->List Int,∀k,M k=(x.ins.take k).map N:=⟨_,λ_=>rfl⟩
  have MX:[]=M 0:=by rw [hM];rfl
  cbv
  refine ⟨x,⟨h0,kZ⟩,?_⟩
  cbv
  refine Sat.cd (Qh 0 0) 6 9 [(.t 8,5)] (λk:Nat=>[(8,.own 5),(9,.i .i64 (λ_=>(k:Int)))]) (λk=>[(5,.dyn 3 1 bK (λ_=>M k))]) (λk=>k<=x.ins.length) (λk=>x.ins.length - k) 0 (by exact ao) (by have j6:=MX;have dP:=MX;exact bI) (cL _) ?_
  intro k hk
  have hk:k<=x.ins.length:=hk
  have k0:=n0 k
  have k1:=cj (i:=k) (by omega)
  cbv
  refine ⟨λh=>?_,λh=>?_⟩
  ·have db:k < x.ins.length:=bG
   have X3:x.ins.length - (k+1) < x.ins.length - k:=by omega
   refine (bB db).elim λs hs=>?_
   have qy:=yH s (cb hs)
   have tD:=I6 s qy.1 qy.2
   obtain ⟨t,ht⟩:∃t,nL ⟨ins,blocks,outs,ay⟩ l s=t:=⟨_,rfl⟩
   have cI:M k++[t]=M (k+1):=by rw [hM,hM,take_one hs,N8,<-ht,hN];rfl
   have hMl:(M k).length=k:=by rw [hM,ph,kB];omega
   have z1:((M k).length+1)*8<=140737488355328:=by omega
   have z2:(M k).length+1<=9223372036854775807:=by omega
   cbv
   refine ⟨s,⟨k0,hs⟩,?_⟩
   cbv
   refine ⟨⟨⟨ins,blocks,outs,ay⟩,s,l⟩,⟨by exact bQ,tD⟩,?_⟩
   cbv
   refine ⟨[t],⟨by have bm:=ht;exact cQ,z1,z2⟩,?_⟩
   cbv
   exact ⟨k+1,by exact ao,by have dP:=cI;exact bI,⟨⟨db,X3⟩⟩⟩
  have ZA:k=x.ins.length:=by
   have h':aS k x.ins.length=false:=h.out
   have h2:¬(k:Int) < x.ins.length:=by simpa [aS] using h'
   omega
  obtain ⟨J,hJ⟩:∃J,M k=J:=⟨_,rfl⟩
  have Yp:J=x.ins.map N:=by rw [<-hJ,hM,ZA,kC]
  refine (bB (l:=l) (i:=i) (by omega)).elim λv hv=>?_
  have Mw:=Ag.Je v (cb hv)
  have DB:0<=v/\v.toNat < (B i).length:=by rw [hBl];omega
  refine (bB DB.2).elim λu hu=>?_
  have bA:(B i).set v.toNat ⟨J,x.table,x.b9,x.bh,x.key⟩=B (i+1):=by rw [hB,hB,Yp,<-hN];exact ao3 (p:=⟨ins,blocks,outs,ay⟩) hv kZ
  clear h k0 k1 hk
  cbv
  refine Sat.freeze 5 rfl rfl ?_
  refine Sat.uH (ars 0 0) ?_
  cbv
  refine ⟨v,⟨h0,hv⟩,?_⟩
  cbv
  refine ⟨⟨DB⟩,?_⟩
  cbv
  refine ⟨(u,⟨J,x.table,x.b9,x.bh,x.key⟩),⟨hu,rfl,by have dJ:=hJ;exact cQ⟩,?_⟩
  cbv
  exact ⟨i+1,by exact ao,by have dP:=bA;exact bI,⟨⟨bq,a7⟩⟩⟩
 have bS:i=blocks.length:=by
  have h':aS i blocks.length=false:=h.out
  have h2:¬(i:Int) < blocks.length:=by simpa [aS] using h'
  omega
 clear h h0 h1 hi
 obtain ⟨D,hD⟩:∃D:Nat->List Int,∀k,D k=(ay.take k).map N:=⟨_,λ_=>rfl⟩
 have hD0:[]=D 0:=by rw [hD];rfl
 cbv
 refine Sat.iH 3 3 3 1 n8 cP rfl rfl ?_
 cbv
 refine Sat.cd (Qh 0 0) 5 6 [(.c 3 3,4)] (λk:Nat=>[(10,.i .i64 (λ_=>(k:Int)))]) (λk=>[(4,.dyn 3 1 bK (λ_=>D k))]) (λk=>k<=ay.length) (λk=>ay.length - k) 0 (by exact ao) (by have j6:=hD0;have dP:=hD0;exact bI) (cL _) ?_
 intro k hk
 have hk:k<=ay.length:=hk
 have k0:=n0 k
 have k1:=cj (i:=k) (by omega)
 cbv
 refine ⟨λh=>?_,λh=>?_⟩
 ·have db:k < ay.length:=bG
  have X3:ay.length - (k+1) < ay.length - k:=by omega
  refine (bB db).elim λs hs=>?_
  have qy:=hx.ay s (cb hs)
  have tD:=I6 s qy.1 qy.2
  obtain ⟨t,ht⟩:∃t,nL ⟨ins,blocks,outs,ay⟩ l s=t:=⟨_,rfl⟩
  have cI:D k++[t]=D (k+1):=by rw [hD,hD,take_one hs,N8,<-ht,hN];rfl
  have hDl:(D k).length=k:=by rw [hD,ph,kB];omega
  have z1:((D k).length+1)*8<=140737488355328:=by omega
  have z2:(D k).length+1<=9223372036854775807:=by omega
  cbv
  refine ⟨s,⟨k0,hs⟩,?_⟩
  cbv
  refine ⟨⟨⟨ins,blocks,outs,ay⟩,s,l⟩,⟨by exact bQ,tD⟩,?_⟩
  cbv
  refine ⟨[t],⟨by have bm:=ht;exact cQ,z1,z2⟩,?_⟩
  cbv
  exact ⟨k+1,by exact ao,by have dP:=cI;exact bI,⟨⟨db,X3⟩⟩⟩
 have ZA:k=ay.length:=by
  have h':aS k ay.length=false:=h.out
  have h2:¬(k:Int) < ay.length:=by simpa [aS] using h'
  omega
 have r1:ins=R.ins:=by rw [xq]
 have r2:B i=R.blocks:=by rw [xq,bS]
 have r3:outs=R.outs:=by rw [xq]
 have r4:D k=R.ay:=by rw [xq,hD,ZA,kC]
 clear xq h k0 k1 hk
 cbv
 exact ⟨by have dJ:=r1;have pH:=r2;have yw:=r3;have yx:=r4;exact dy⟩
structure uf (p:bt):Prop where
 sh:Shape p
 rk:∃r,jH p r
 ky:K9 p
 il:p.ins.length<=1000000
 ol:p.outs.length<=1000000
theorem uf.va {p:bt} (h:uf p):Bl p :=
 ⟨⟨by have:=h.sh.dK;omega,h.il⟩,h.ol,by rw [h.sh.pA];exact h.ol,λx hx=>by have:=(h.sh.formed x hx).k;omega⟩
theorem uf.vr {p:bt} (h:uf p):Xx p:=⟨h.va,h.sh,h.rk⟩
theorem uf.ai5 {p:bt} (h:uf p):De p:=⟨h.sh,h.rk,h.il⟩
theorem uf.mv {p:bt} {l:List Int} (h:uf p) (hl:lM p.blocks.length l):X1 ⟨p,l⟩ :=
 ⟨h.il,by have:=h.sh.dK;show p.blocks.length<=1000000;omega,h.va.ay,hl,h.va.k,λy hy s hs=>⟨(h.sh.used y hy s hs).lo,(h.sh.used y hy s hs).hi⟩,λs hs=>⟨(h.sh.ay s hs).lo,(h.sh.ay s hs).hi⟩⟩
theorem uf.as5 {p:bt} {l:List Int} (h:uf p) (hl:lM p.blocks.length l):uf (n9 p l):=by
 obtain ⟨r,hr⟩:=h.rk
 exact ⟨amz hl h.sh,⟨_,aax hl h.sh hr⟩,amC hl h.sh hr h.ky,h.il,h.ol⟩
theorem uf.bh {p:bt} (h:uf p) {i:Nat} {y:Block} (hy:p.blocks[i]?=some y) (h0:0<=y.bh):y.key=iw [1,y.bh]:=by
 have h1:=h.ky i y hy
 rw [OE (bY.1 hy).1] at h1
 unfold C9 at h1
 rw [hy] at h1
 simp only [if_pos h0] at h1
 exact (Cj h1).symm
theorem ana {n:Net} {m:gL} (hn:eU n) (hm:jI n m) (hd:n.ay.length<=1000):uf (sw n m):=by
 obtain ⟨h1,h2,h3⟩:=Um hn hm
 obtain ⟨s1,s2⟩:=aaT (m:=m) hn
 have fV:=hn.pA
 exact ⟨h1,⟨_,h2⟩,h3,by omega,by omega⟩
theorem aqd {n:Net} {m:gL} (hn:eU n) (hm:jI n m) (hd:n.ay.length<=1000):Dg ⟨n,m⟩ :=
 ⟨⟨hn,by have:=hn.pA;show n.outs.length<=100000;omega,by have:=hn.pA;have:=hm.pA;show m.ay.length<=100000;omega⟩,λ_ _=>hm⟩
theorem ao4 {n:Net} {m:gL} (hm:jI n m):uh ⟨n,m⟩=(sw n m,0):=by
 unfold uh
 rw [if_pos ⟨hm.ni.symm,hm.pA.symm⟩]
@[reducible] noncomputable def X4:Vc.Spec where
 α:=ux
 args y:=[.agg [.sl 3 dk (λ_=>y.n.ins),.sl 5 dE (λ_=>y.n.gP),.sl 3 dk (λ_=>y.n.outs),.sl 1 bK (λ_=>y.n.ay)],.agg [.i .i64 (λ_=>y.m.n),.sl 3 rM (λ_=>y.m.cells),.sl 1 bK (λ_=>y.m.ay)]]
 pre y:=Dg y
 res y:=.agg [.sl 3 dk (λ_=>(gV y).1.ins),.sl 5 oD (λ_=>(gV y).1.blocks),.sl 3 dk (λ_=>(gV y).1.outs),.sl 1 bK (λ_=>(gV y).1.ay),.i .i64 (λ_=>(gV y).2)]
noncomputable def avR (n m:Nat):Ctx:=eF n m [] [(74,Lf)]
theorem aru (n m:Nat):CB PP (avR n m):=eH n m trivial ⟨U3,trivial⟩
theorem arv:cW (PP ()) 16 X4:=by
 refine dT (aru 0 0) (fo Tryz.func16) (λa=>⟨⟨(λx=>(gU x).1),(λx=>(eO x).1),(λx=>(gU x).1),(λx=>(cP x).1),trivial⟩,⟨trivial,(λx=>(AM x).1),(λx=>(cP x).1),trivial⟩,trivial⟩) (λa=>⟨(λx=>(gU x).1),(λx=>(JV x).1),(λx=>(gU x).1),(λx=>(cP x).1),trivial,trivial⟩) ?_
 rintro ⟨⟨ins,gs,outs,dr⟩,⟨mn,mc,md⟩⟩ hx
 have hx:Dg ⟨⟨ins,gs,outs,dr⟩,⟨mn,mc,md⟩⟩:=hx
 obtain ⟨R,hR⟩:∃R,gV ⟨⟨ins,gs,outs,dr⟩,⟨mn,mc,md⟩⟩=R:=⟨_,rfl⟩
 obtain ⟨⟨ri,rb,ro,rd⟩,re⟩:=R
 have kp:X4.res ⟨⟨ins,gs,outs,dr⟩,⟨mn,mc,md⟩⟩=.agg [.sl 3 dk (λ_=>ri),.sl 5 oD (λ_=>rb),.sl 3 dk (λ_=>ro),.sl 1 bK (λ_=>rd),.i .i64 (λ_=>re)]:=by
  show SV.agg [.sl 3 dk (λ_=>(gV ⟨⟨ins,gs,outs,dr⟩,⟨mn,mc,md⟩⟩).1.ins),.sl 5 oD (λ_=>(gV ⟨⟨ins,gs,outs,dr⟩,⟨mn,mc,md⟩⟩).1.blocks),.sl 3 dk (λ_=>(gV ⟨⟨ins,gs,outs,dr⟩,⟨mn,mc,md⟩⟩).1.outs),.sl 1 bK (λ_=>(gV ⟨⟨ins,gs,outs,dr⟩,⟨mn,mc,md⟩⟩).1.ay),.i .i64 (λ_=>(gV ⟨⟨ins,gs,outs,dr⟩,⟨mn,mc,md⟩⟩).2)]=_
  rw [hR]
 have w1:(gV ⟨⟨ins,gs,outs,dr⟩,⟨mn,mc,md⟩⟩).1.ins=ri:=by rw [hR]
 have w2:(gV ⟨⟨ins,gs,outs,dr⟩,⟨mn,mc,md⟩⟩).1.blocks=rb:=by rw [hR]
 have w3:(gV ⟨⟨ins,gs,outs,dr⟩,⟨mn,mc,md⟩⟩).1.outs=ro:=by rw [hR]
 have w4:(gV ⟨⟨ins,gs,outs,dr⟩,⟨mn,mc,md⟩⟩).1.ay=rd:=by rw [hR]
 have w5:(gV ⟨⟨ins,gs,outs,dr⟩,⟨mn,mc,md⟩⟩).2=re:=by rw [hR]
 rw [kp]
 refine ⟨?_⟩
 cbv
 refine ⟨⟨⟨ins,gs,outs,dr⟩,⟨mn,mc,md⟩⟩,⟨by exact bQ,hx⟩,?_⟩
 cbv
 exact ⟨by have dJ:=w1;have pH:=w2;have yw:=w3;have yx:=w4;have bm:=w5;exact dy⟩
structure Ke where
 x:List Int
 s:List Int
 i:List Int
 c:List Int
 b:List Int
structure ai6 (y:Ke):Prop where
 x:qN y.x
 c:qN y.c
 b:qN y.b
@[reducible] noncomputable def KeS:Vc.Spec where
 α:=Ke
 args y:=[.agg [.sl 1 iN (λ_=>y.x),.sl 1 iN (λ_=>y.s),.sl 1 iN (λ_=>y.i),.sl 1 iN (λ_=>y.c)],.sl 1 iN (λ_=>y.b)]
 pre y:=ai6 y
 res y:=.b (λ_=>true)
noncomputable def cKe (n m:Nat):Ctx:=eF n m [(15,Tryz.f15)] [(11,ExS),(12,ae2),(16,X4),(17,aef),(19,XZ),(18,X2),(26,Qe),(27,KK)] [15]
theorem agX (n m:Nat):CB PP (cKe n m):=eH n m ⟨fo Tryz.func15,trivial⟩ ⟨as3,aoB,arv,anN,arp,art,U2,Un,trivial⟩
theorem as6:cW (PP ()) 4 KeS:=by
 refine dT (agX 0 0) (fo Tryz.func4) (λa=>⟨⟨(λx=>(sq x).1),(λx=>(sq x).1),(λx=>(sq x).1),(λx=>(sq x).1),trivial⟩,(λx=>(sq x).1),trivial⟩) (λa=>trivial) ?_
 rintro ⟨x,s,i0,c,b⟩ hx
 have hx:ai6 ⟨x,s,i0,c,b⟩:=hx
 have oZ:qN x:=hx.x
 have gA:qN c:=hx.c
 have zW:qN b:=hx.b
 clear hx
 refine ⟨?_⟩
 cbv
 refine ⟨(),⟨by exact bQ,trivial⟩,?_⟩
 cbv
 refine ⟨λh=>?_,λh=>?_⟩
 ·have hF:False:=by have h:=h.out;simp at h
  cases hF
 clear h
 cbv
 refine ⟨λh=>?_,λh=>?_⟩
 ·cbv
  exact ⟨.refl _⟩
 have aBu:c.length<=40:=by
  have h':aS 40 (c.length:Int)=false:=h.out
  have h2:¬(40:Int) < c.length:=by simpa [aS] using h'
  omega
 have lC:c.length<=1000/\∀z∈c,0<=z/\z<=255:=⟨by omega,gA.2⟩
 clear h
 cbv
 refine ⟨x,⟨by exact bQ,oZ⟩,?_⟩
 cbv
 refine bV.rel aq6 c (by exact aL) ⟨lC⟩ λy hy=>?_
 have hy:P5 y:=hy.out
 obtain ⟨⟨ins,gs,outs,dr⟩,⟨mn,mc,md⟩,is⟩:=y
 have j2:eU ⟨ins,gs,outs,dr⟩:=hy.BM
 have oX:dr.length<=1000:=hy.yG
 have CR:is=true->jI ⟨ins,gs,outs,dr⟩ ⟨mn,mc,md⟩:=hy.map
 clear hy
 cbv
 refine ⟨λh=>?_,λh=>?_⟩
 ·cbv
  exact ⟨.refl _⟩
 have his:is=true:=by
  have h':(!is)=false:=h.out
  simpa using h'
 have ZB:=CR his
 have Gu:=aqd j2 ZB oX
 have Fk:=ana j2 ZB oX
 have vH:gV ⟨⟨ins,gs,outs,dr⟩,⟨mn,mc,md⟩⟩=(sw ⟨ins,gs,outs,dr⟩ ⟨mn,mc,md⟩,0):=by rw [y6,ao4 ZB]
 obtain ⟨p,hp⟩:∃p,sw ⟨ins,gs,outs,dr⟩ ⟨mn,mc,md⟩=p:=⟨_,rfl⟩
 rw [hp] at vH Fk
 obtain ⟨P1,P2,P3,P4⟩:=p
 have w1:(gV ⟨⟨ins,gs,outs,dr⟩,⟨mn,mc,md⟩⟩).1.ins=P1:=by rw [vH]
 have w2:(gV ⟨⟨ins,gs,outs,dr⟩,⟨mn,mc,md⟩⟩).1.blocks=P2:=by rw [vH]
 have w3:(gV ⟨⟨ins,gs,outs,dr⟩,⟨mn,mc,md⟩⟩).1.outs=P3:=by rw [vH]
 have w4:(gV ⟨⟨ins,gs,outs,dr⟩,⟨mn,mc,md⟩⟩).1.ay=P4:=by rw [vH]
 have w5:(gV ⟨⟨ins,gs,outs,dr⟩,⟨mn,mc,md⟩⟩).2=0:=by rw [vH]
 clear h CR hp
 cbv
 refine ⟨⟨⟨ins,gs,outs,dr⟩,⟨mn,mc,md⟩⟩,⟨by exact bQ,Gu⟩,?_⟩
 cbv
 refine ⟨λh=>?_,λh=>?_⟩
 ·have hF:False:=by
   have h:=h.out
   rw [show aV (gV ⟨⟨ins,gs,outs,dr⟩,⟨mn,mc,md⟩⟩).2 0=true by rw [w5];rfl] at h
   cases h
  cases hF
 clear h
 have Mw:=Fk.vr
 have hP2:P2.length<=600:=Fk.sh.dK
 have nP:XY ⟨P2.length,b⟩:=⟨by show P2.length<=1000000;omega,zW.2⟩
 have Ag:lM P2.length (L9 b P2.length):=by rw [aeq];exact aqb _ _
 obtain ⟨l,hl⟩:∃l,L9 b P2.length=l:=⟨_,rfl⟩
 rw [hl] at Ag
 have Mr:=Fk.mv Ag
 have M4:=Fk.as5 Ag
 rw [<-U6] at M4
 obtain ⟨q,hq⟩:∃q,zM ⟨P1,P2,P3,P4⟩ l=q:=⟨_,rfl⟩
 rw [hq] at M4
 have QZ:q.blocks.length=P2.length:=by rw [<-hq,U6,G9]
 obtain ⟨Q1,Q2,Q3,Q4⟩:=q
 have v1:(zM ⟨P1,P2,P3,P4⟩ l).ins=Q1:=by rw [hq]
 have v2:(zM ⟨P1,P2,P3,P4⟩ l).blocks=Q2:=by rw [hq]
 have v3:(zM ⟨P1,P2,P3,P4⟩ l).outs=Q3:=by rw [hq]
 have v4:(zM ⟨P1,P2,P3,P4⟩ l).ay=Q4:=by rw [hq]
 obtain ⟨N,hN⟩:∃N,P2.length=N:=⟨_,rfl⟩
 rw [hN] at nP hl Ag hP2 QZ
 have Dk:((gV ⟨⟨ins,gs,outs,dr⟩,⟨mn,mc,md⟩⟩).1.blocks.length:Int)=(N:Int):=by rw [w2,hN]
 have ju:((zM ⟨P1,P2,P3,P4⟩ l).blocks.length:Int)=(N:Int):=by rw [v2];exact congrArg Nat.cast QZ
 have eX:((lx ⟨P1,P2,P3,P4⟩).length:Int)=(N:Int):=by rw [TR];exact congrArg Nat.cast hN
 have mO:((lx ⟨Q1,Q2,Q3,Q4⟩).length:Int)=(N:Int):=by rw [TR];exact congrArg Nat.cast QZ
 have hcA:(!aV ((lx ⟨P1,P2,P3,P4⟩).length:Int) ((gV ⟨⟨ins,gs,outs,dr⟩,⟨mn,mc,md⟩⟩).1.blocks.length:Int))=true->False:=by
  rw [eX,Dk];simp [aV]
 have hcB:(!aV ((lx ⟨Q1,Q2,Q3,Q4⟩).length:Int) ((lx ⟨P1,P2,P3,P4⟩).length:Int))=true->False:=by
  rw [eX,mO];simp [aV]
 have aR:∀i:Nat,aS i ((lx ⟨P1,P2,P3,P4⟩).length:Int)=true->i < N:=λi h'=>by
  rw [eX] at h'
  simpa [aS] using h'
 have as7:∀{i:Nat} {x:Block},P2[i]?=some x->(gV ⟨⟨ins,gs,outs,dr⟩,⟨mn,mc,md⟩⟩).1.blocks[i]?=some x:=λh=>by rw [w2];exact h
 have as8:∀{i:Nat} {x:Block},Q2[i]?=some x->(zM ⟨P1,P2,P3,P4⟩ l).blocks[i]?=some x:=λh=>by rw [v2];exact h
 have pL:=Fk.ai5
 have hkq:=M4.ai5
 cbv
 refine ⟨⟨P1,P2,P3,P4⟩,⟨by have dJ:=w1;have pH:=w2;have yw:=w3;have yx:=w4;exact cQ,Mw⟩,?_⟩
 cbv
 refine ⟨λh=>?_,λh=>?_⟩
 ·have hF:False:=by have h:=h.out;simp at h
  cases hF
 clear h
 cbv
 refine ⟨⟨N,b⟩,⟨by have bm:=Dk;exact cQ,nP⟩,?_⟩
 cbv
 refine ⟨⟨⟨P1,P2,P3,P4⟩,l⟩,⟨by have dJ:=w1;have pH:=w2;have yw:=w3;have yx:=w4;have Yx:=hl;exact cQ,Mr⟩,?_⟩
 cbv
 refine ⟨⟨P1,P2,P3,P4⟩,⟨by have dJ:=w1;have pH:=w2;have yw:=w3;have yx:=w4;exact cQ,pL⟩,?_⟩
 cbv
 refine ⟨⟨Q1,Q2,Q3,Q4⟩,⟨by have dJ:=v1;have pH:=v2;have yw:=v3;have yx:=v4;exact cQ,hkq⟩,?_⟩
 cbv
 refine ⟨λh=>?_,λh=>?_⟩
 ·have hF:=hcA h.out
  cases hF
 clear h
 cbv
 refine ⟨λh=>?_,λh=>?_⟩
 ·have hF:=hcB h.out
  cases hF
 clear h
 cbv
 refine Sat.cd (agX 0 0) 4 11 [] (λi:Nat=>[(11,.i .i64 (λ_=>(i:Int)))]) (λi=>[]) (λi=>i<=N) (λi=>N - i) 0 (by exact ao) (by exact ao) (cL _) ?_
 intro i hi
 have hi:i<=N:=hi
 have h0:=n0 i
 have h1:=cj (i:=i) (by omega)
 cbv
 refine ⟨λh=>?_,λh=>?_⟩
 rotate_left
 ·cbv
  exact ⟨.refl _⟩
 have bq:i < N:=aR i h.out
 have a7:N - (i+1) < N - i:=by omega
 refine (bB (l:=P2) (i:=i) (by rw [hN];exact bq)).elim λx1 gy=>?_
 refine (bB (l:=Q2) (i:=i) (by show i < Q2.length;rw [show Q2.length=N from QZ];exact bq)).elim λy1 fG=>?_
 have hkx:=Fk.ky i x1 gy
 have ai7:=M4.ky i y1 fG
 have uw:=M4.bh fG
 have avS:=as7 gy
 have X5:=as8 fG
 clear h
 cbv
 refine ⟨x1.key,⟨h0,hkx⟩,?_⟩
 cbv
 have hcC:(!aV x1.key x1.key)=true->False:=λh=>by simp [aV] at h
 have hcD:(!aV y1.key y1.key)=true->False:=λh=>by simp [aV] at h
 refine ⟨x1,⟨h0,avS⟩,?_⟩
 cbv
 refine ⟨λh=>?_,λh=>?_⟩
 ·have hF:=hcC h.out
  cases hF
 clear h
 cbv
 refine ⟨y1.key,⟨h0,ai7⟩,?_⟩
 cbv
 refine ⟨y1,⟨h0,X5⟩,?_⟩
 cbv
 refine ⟨λh=>?_,λh=>?_⟩
 ·have hF:=hcD h.out
  cases hF
 clear h
 cbv
 refine ⟨y1,⟨h0,X5⟩,?_⟩
 cbv
 refine And.intro ?_ ?_
 ·intro h
  have Gc:0<=y1.bh:=bG
  have Gn:=uw Gc
  have hcE:(!aV y1.key (iw [1,y1.bh]))=true->False:=λh=>by rw [Gn] at h;simp [aV] at h
  have tI:([1,y1.bh]:List Int).length < 4611686018427387904:=by show 2 < 4611686018427387904;decide
  clear h
  cbv
  refine ⟨y1.key,⟨h0,ai7⟩,?_⟩
  cbv
  refine ⟨y1,⟨h0,X5⟩,?_⟩
  cbv
  refine ⟨[1,y1.bh],⟨.inl ⟨by exact bQ,rfl⟩,tI⟩,?_⟩
  cbv
  refine ⟨λh=>?_,λh=>?_⟩
  ·have hF:=hcE h.out
   cases hF
  clear h
  cbv
  exact ⟨i+1,by exact ao,by exact ao,⟨⟨bq,a7⟩⟩⟩
 ·intro h
  clear h
  cbv
  exact ⟨i+1,by exact ao,by exact ao,⟨⟨bq,a7⟩⟩⟩
theorem cW.bc {f:FuncId} {S:Vc.Spec} (h:cW (PP ()) f S) (hr:∀a,S.res a=.b λ_=>true):cW (PP ()) f { S with res:=λ_=>.bc true,fr:=false } where
 fn:=h.fn
 lf:=h.lf
 lr:=λ_=>trivial
 fresh:=λh=>by cases h
 run:=λa hp H F w vals h1 h2 h3=>(h.run a hp H F w vals h1 h2 h3).mono (by
  rintro e w' ⟨v,H',g1,g2,g3,g4,g5,g6,g7⟩
  rw [hr] at g6
  exact ⟨v,H',g1,g2,g3,g4,g5,by simpa only [rel] using g6,g7⟩)
@[reducible] noncomputable def keS:Vc.Spec:={ KeS with res:=λ_=>.bc true,fr:=false }
theorem arw:cW (PP ()) 4 keS:=cW.bc as6 λ_=>rfl
theorem ZC {l:List Int} (h:l.length<=maxLen/\∀x∈l,IntKind.u8.min<=x/\x<=IntKind.u8.max):qN l:=by
 refine ⟨by have:=h.1;unfold maxLen at this;omega,λx hx=>?_⟩
 have:=h.2 x hx
 simp [IntKind.min,IntKind.max,IntKind.bits,IntKind.signed] at this
 omega
end Go.Proofs.Pk
