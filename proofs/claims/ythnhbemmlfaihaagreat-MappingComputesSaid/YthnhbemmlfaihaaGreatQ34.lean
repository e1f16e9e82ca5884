import Derived.Test.YthnhbemmlfaihaaGreatQ11
import Derived.Test.YthnhbemmlfaihaaGreatQ13
import Derived.Test.YthnhbemmlfaihaaGreatQ22
import Derived.Test.YthnhbemmlfaihaaGreatQ23
import Derived.Test.YthnhbemmlfaihaaGreatQ24
import Derived.Test.YthnhbemmlfaihaaGreatQ27
import Derived.Test.YthnhbemmlfaihaaGreatQ29
import Derived.Test.YthnhbemmlfaihaaGreatQ32
import Derived.Test.YthnhbemmlfaihaaGreatQ33
set_option linter.unusedVariables false
set_option linter.unusedSimpArgs false
set_option maxRecDepth 10000
set_option maxHeartbeats 64000000
namespace Go.Proofs.Pk
open Go Go.Vc
structure aug where
 l:List Int
 D:List Int
@[reducible] noncomputable def afD:Vc.Spec where
 α:=aug
 args x:=[.sl 1 bP (λ_=>x.l),.dU [.sl 1 bP (λ_=>x.D)] 0]
 pre x:=mG x.D x.l
 res x:=.i .i64 (λ_=>cU x.D x.l)
noncomputable def auh (n m:Nat):Ctx:=dH n m [] []
theorem acX (n m:Nat):CB PP (auh n m):=dK n m trivial trivial
theorem ao5:cR (PP ()) 119 afD:=by
 refine et (acX 0 0) (fo Tryz.func119) (λa=>⟨λx=>(df x).1,⟨λx=>(df x).1,trivial⟩,trivial⟩) (λa=>trivial) ?_
 rintro ⟨l,L⟩ hx
 have hx:mG L l:=hx
 have kP:=hx.len
 have B7:cU L (l.take 0)=0:=rfl
 refine ⟨?_⟩
 cbv
 refine Sat.dq (acX 0 0) 0 4 [] (λi:Nat=>[(4,.i .i64 (λ_=>cU L (l.take i))),(7,.sl 1 bP (λ_=>l)),(8,.i .i64 (λ_=>(l.length:Int))),(9,.i .i64 λ_=>(i:Int))]) (λ_=>[]) (λi=>i<=l.length) (λi=>l.length - i) 0 (by have iY:=B7.symm;exact bh) (by exact aM) (cg _) ?_
 intro i hi
 have hi:i<=l.length:=hi
 have h0:=n0 i
 have h1:=dC (i:=i) (by omega)
 cbv
 refine ⟨λh=>?_,λh=>?_⟩
 ·have bM:i < l.length:=aH
  have bZ:l.length - (i+1) < l.length - i:=by omega
  refine (bO bM).elim λv hv=>?_
  have hb:=hx.mem v (cB hv)
  refine (bO (l:=L) (i:=v.toNat) (by omega)).elim λx jc=>?_
  have cH:=Yk hv jc
  have ib:=hb.1
  clear h
  cbv
  refine ⟨v,⟨h0,hv⟩,?_⟩
  cbv
  refine ⟨x,⟨ib,jc⟩,?_⟩
  cbv
  exact ⟨i+1,by have bH:=cH;have jv:=h1;exact bh,by exact aM,⟨⟨bM,bZ⟩⟩⟩
 ·have cG:l.length<=i:=aH
  have hr:cU L (l.take i)=cU L l:=by rw [iQ cG]
  cbv
  exact ⟨by have bH:=hr;exact bX⟩
structure aui where
 m:ej
 d:Int
structure Pq (m:ej) (d:Int):Prop where
 v:BE m
 cin:∀x∈m.cells,x.ins.length<=1000000
 dr:m.bj.length<=1000000
 eq:y9 m=d
@[reducible] noncomputable def Vj:Vc.Spec where
 α:=aui
 args x:=[.agg (wR x.m)]
 pre x:=Pq x.m x.d
 res x:=.i .i64 (λ_=>x.d)
noncomputable def auj (n m:Nat):Ctx:=dH n m [] [(119,afD)]
theorem acY (n m:Nat):CB PP (auj n m):=dK n m trivial ⟨ao5,trivial⟩
theorem acZ:cR (PP ()) 46 Vj:=by
 refine et (acY 0 0) (fo Tryz.func46) (λa=>⟨y4 a.m,trivial⟩) (λa=>trivial) ?_
 rintro ⟨⟨mn,mc,md⟩,d⟩ hx
 have hx:Pq ⟨mn,mc,md⟩ d:=hx
 have KC:mc.length<=600:=by have:=hx.v.n6;have:=hx.v.n0;simp only at *;omega
 refine (asJ hx.v hx.cin hx.dr).elim λD hF=>?_
 refine hF.elim λW hF=>?_
 have B9:=hF.w0
 have hW:2+mn=W:=hF.w
 have mK:IntKind.i64.wrap (2+mn)=W:=by rw [hW];exact dt (by omega) (by omega)
 have pc:IntKind.i64.wrap (IntKind.i64.wrap (2+mn)+(mc.length:Int))=W+mc.length:=by rw [mK];exact dt (by omega) (by omega)
 have lX:0<=IntKind.i64.wrap (2+mn)/\IntKind.i64.wrap (2+mn)<=IntKind.i64.wrap (IntKind.i64.wrap (2+mn)+(mc.length:Int))/\((8:Nat):Int)*IntKind.i64.wrap (IntKind.i64.wrap (2+mn)+(mc.length:Int))<=281474976710656/\IntKind.i64.wrap (IntKind.i64.wrap (2+mn)+(mc.length:Int))<=9223372036854775807:=by rw [pc,mK];omega
 have hz:List.replicate (IntKind.i64.wrap (2+mn)).toNat 0=D 0:=by rw [mK];exact hF.z
 have ia:∀(i:Nat) (x:Cell),mc[i]?=some x->D i++[1+cU (D i) x.ins]=D (i+1)/\mG (D i) x.ins/\IntKind.i64.wrap (1+cU (D i) x.ins)=1+cU (D i) x.ins:=hF.grow
 have lD:∀i,i<=mc.length->(D i).length<=600:=hF.len
 have o8:∀i,i<=mc.length->mc.length<=i->mG (D i) md/\cU (D i) md=d:=λi h1 h2=>by
  have:=hF.fin i h1 h2
  exact ⟨this.1,this.2.trans hx.eq⟩
 clear hF hx
 refine ⟨?_⟩
 cbv
 refine ⟨⟨lX⟩,?_⟩
 refine Sat.dq (acY 0 0) 3 5 [(.c 2 0,1)] (λi:Nat=>[(20,.sl 3 lN (λ_=>mc)),(21,.i .i64 (λ_=>(mc.length:Int))),(22,.i .i64 (λ_=>(i:Int)))]) (λi=>[(1,.dyn 3 1 bP (λ_=>D i)),(2,.fix 35 [.own 1])]) (λi=>i<=mc.length) (λi=>mc.length - i) 0 (by exact aM) (by have fc:=hz;exact bh) (cg _) ?_
 intro i hi
 have hi:i<=mc.length:=hi
 have dV:=n0 i
 have e7:=dC (i:=i) (by omega)
 have kP:=lD i hi
 have b1:((D i).length+1)*8<=140737488355328:=by omega
 have b2:(D i).length+1<=9223372036854775807:=by omega
 have o8:=o8 i hi
 cbv
 refine ⟨λh=>?_,λh=>?_⟩
 ·have bM:i < mc.length:=aH
  have bZ:mc.length - (i+1) < mc.length - i:=by omega
  refine (bO bM).elim λx=>?_
  refine x.casesOn λxi xt xr hx=>?_
  refine (⟨_,rfl⟩:∃g,cU (D i) xi=g).elim λg hg=>?_
  have h3:D i++[1+cU (D i) xi]=D (i+1)/\mG (D i) xi/\IntKind.i64.wrap (1+cU (D i) xi)=1+cU (D i) xi:=ia i _ hx
  have h4:=h3.2.1
  have h5:=h3.2.2
  have h6:=h3.1
  refine (⟨_,rfl⟩:∃q,1+cU (D i) xi=q).elim λq hq=>?_
  rw [hq] at h6
  have h5:=h5.trans hq
  clear h h3
  cbv
  refine ⟨⟨xi,xt,xr⟩,⟨dV,hx⟩,?_⟩
  cbv
  refine ⟨⟨xi,D i⟩,⟨.inl ⟨by exact bp,rfl⟩,h4⟩,?_⟩
  cbv
  refine ⟨[q],⟨by have bH:=h5;exact bX,b1,b2⟩,?_⟩
  cbv
  exact ⟨i+1,by have bH:=e7;exact bh,by have fc:=h6;exact bh,⟨⟨bM,bZ⟩⟩⟩
 ·have cG:mc.length<=i:=aH
  have h1:=(o8 cG).1
  have h2:=(o8 cG).2
  clear h
  cbv
  refine ⟨⟨md,D i⟩,⟨.inl ⟨by exact bp,rfl⟩,h1⟩,?_⟩
  cbv
  exact ⟨by have bH:=h2;exact bX⟩
theorem aj4 {l m:List (List Int)} (hn:l.Nodup) (hs:∀x∈l,x∈m):l.length<=m.length:=by
 induction l generalizing m with
 | nil=>simp
 | cons a r ih =>
  have nY:=yS.1 hn
  have ha:=hs a (by simp)
  have h1:=ih (m:=m.erase a) nY.2 λx hx=>by
   have bW:x≠a:=by rintro rfl;exact nY.1 hx
   exact (List.mem_erase_of_ne bW).2 (hs x (by simp [hx]))
  rw [List.length_erase_of_mem ha] at h1
  have h2:0 < m.length:=List.length_pos_of_mem ha
  simp only [qd]
  omega
structure Seen (l:List eS) (s:List (List Int)):Prop where
 sub:∀k∈s,k∈l.map En
 nd:s.Nodup
theorem Seen.more {l:List eS} {s:List (List Int)} (h:Seen l s) {x:eS} (hx:x∈l) (hn:En x∉s):Seen l (s++[En x])/\l.length - (s++[En x]).length < l.length - s.length:=by
 have h1:Seen l (s++[En x]):=⟨λk hk=>by
  rcases dR.1 hk with hk|hk
  ·exact h.sub k hk
  ·rw [j9.1 hk];exact IQ hx,MM.2 ⟨h.nd,by simp,λa ha b hb e=>by simp at hb;subst hb;subst e;exact hn ha⟩⟩
 have h2:=aj4 h1.nd h1.sub
 rw [List.length_append,iR,xC] at h2
 exact ⟨h1,by rw [List.length_append,xC];omega⟩
structure auk where
 n:Net
 m:ej
theorem Hd.all {p:eY} {st sig out:List Int} (h:Hd p st sig out) (ha:∀c,c < p.blocks.length->St st 2 c):out=T9 p:=by
 refine qO λb=>?_
 unfold T9
 rw [mq]
 by_cases hb:b < p.blocks.length
 ·have hx:p.blocks[b]?=some p.blocks[b]:=eI hb
  rw [MI hb]
  simp only [Aw]
  unfold afy
  rw [hx]
  simp only
  split
  ·rename_i hr;exact (h.dD b _ hx hr).2.2
  ·rename_i hr;exact (h.done b _ hx (by omega) (ha b hb)).2
 ·rw [nF (by rw [h.ol];omega),nF (by simpa using hb)];rfl
structure WX (p:eY) (i:Nat) (sig:List Int):Prop where
 le:i<=p.ins.length
 sl:sig.length=p.ins.length+2*p.blocks.length
 He:∀s:Nat,s < i->sig[s]?=some (JT p s)
theorem WX.add {p:eY} {i:Nat} {sig:List Int} (h:WX p i sig) {w:eS} (hw:p.ins[i]?=some w):WX p (i+1) (sig.set i (qT [2,w.kind,w.i,w.bit])):=by
 have aP:=(bt.1 hw).1
 refine ⟨aP,by simp [h.sl],λs hs=>?_⟩
 by_cases e:s=i
 ·subst e
  have gR:=h.sl
  rw [gY]
  simp only [if_true]
  rw [if_pos (by omega)]
  unfold JT
  rw [jQ,List.getD_eq_getElem?_getD,hw]
  rfl
 ·rw [ig (λh=>e h.symm)];exact h.He s (by omega)
structure H4 (p:eY) (i:Nat) (sig out:List Int):Prop where
 le:i<=p.blocks.length
 sl:sig.length=p.ins.length+2*p.blocks.length
 ol:out.length=p.blocks.length
 He:∀s:Nat,s < p.ins.length->sig[s]?=some (JT p s)
 dD:∀(b:Nat) (x:Block),b < i->p.blocks[b]?=some x->0<=x.dD->sig[p.ins.length+2*b]?=some (qT [3,x.dD])/\sig[p.ins.length+2*b+1]?=some (qT [1,x.dD])/\out[b]?=some (qT [1,x.dD])
theorem H4.skip {p:eY} {i:Nat} {sig out:List Int} (h:H4 p i sig out) {x:Block} (hx:p.blocks[i]?=some x) (hr:x.dD < 0):H4 p (i+1) sig out :=
 ⟨(
  bt.1 hx).1,h.sl,h.ol,h.He,λb y hb hy h0=>by
  by_cases e:b=i
  ·subst e;rw [hx] at hy;cases hy;omega
  ·exact h.dD b y (by omega) hy h0⟩
theorem H4.add {p:eY} {i:Nat} {sig out:List Int} (h:H4 p i sig out) {x:Block} (hx:p.blocks[i]?=some x) (hr:0<=x.dD):H4 p (i+1) ((sig.set (p.ins.length+2*i) (qT [3,x.dD])).set (p.ins.length+2*i+1) (qT [1,x.dD])) (out.set i (qT [1,x.dD])):=by
 have aP:=(bt.1 hx).1
 have gR:=h.sl
 have fu:=h.ol
 refine ⟨aP,by simp [gR],by simp [fu],λs hs=>?_,λb y hb hy h0=>?_⟩
 ·rw [ig (by omega),ig (by omega)];exact h.He s hs
 ·by_cases e:b=i
  ·subst e;rw [hx] at hy;cases hy
   refine ⟨?_,?_,?_⟩
   ·rw [ig (by omega),gY];simp;omega
   ·rw [gY];simp;omega
   ·rw [gY];simp;omega
  ·rw [ig (by omega),ig (by omega),ig (by omega),ig (by omega),ig (by omega)]
   exact h.dD b y (by omega) hy h0
open Classical in
noncomputable def aCr (y:auk):eY × Int:=if (y.n.ins.length:Int)=y.m.n/\y.n.outs.length=y.m.bj.length then (aqW y.n y.m,0) else (⟨[],[],[],[]⟩,270)
theorem akX {P:Unit->Program} {f:FuncId} {S:jT} {T:Vc.Spec} {fn:Func} (I:k7 P f S) (F:lz (P ()) f fn) (c:T.α->S.α) (ha:∀a,T.args a=S.args (c a)) (hp:∀a,T.pre a->S.pre (c a)) (hr:∀a y,T.pre a->S.post (c a) y->S.res (c a) y=T.res a) (EH:∀a,LF (T.res a)) (kO:T.fr=false):cR (P ()) f T where
 fn:=⟨fn,F⟩
 lf:=λa=>by rw [ha];exact I.lf _
 lr:=EH
 fresh:=λh=>by rw [kO] at h;cases h
 run:=λa eD H F' w vals hH hF jI=>by
  rw [ha] at jI
  refine (I.run (c a) (hp a eD) H F' w vals hH hF jI).mono ?_
  rintro e w' ⟨y,v,H',h1,h2,h3,h4,h5,h6,h7,h8⟩
  rw [hr a y eD h1] at h7
  exact ⟨v,H',h2,h3,h4,h5,h6,h7,h8⟩
def pT:Net:=⟨[⟨3,0,0⟩,⟨3,1,0⟩,⟨3,2,0⟩,⟨3,3,0⟩],[⟨2,2,3,0,0⟩,⟨2,4,5,0,0⟩,⟨3,6,7,0,0⟩],[⟨5,0,0⟩],[8]⟩
def pU:Net:=⟨[⟨3,0,0⟩,⟨3,1,0⟩,⟨3,2,0⟩,⟨3,3,0⟩,⟨3,4,0⟩],[⟨2,2,3,0,0⟩,⟨2,4,5,0,0⟩,⟨3,7,8,0,0⟩,⟨4,9,6,0,0⟩],[⟨5,0,0⟩],[10]⟩
def vT:ej:=⟨4,[⟨[2,3,4,5],63624,-1⟩],[6]⟩
def WY:k9:=⟨[8],[[2,3,4,5]]⟩
def WZ:ej:=⟨5,[⟨[2,3,4,5],63624,-1⟩,⟨[6,7],6,-1⟩],[8]⟩
def cX2:k9:=⟨[9,10],[[2,3,4,5],[6,9]]⟩
theorem EZ {I i:Nat} {o a b c n:Int} (h:(1<=o/\o<=7)/\(0<=a/\a < 2+(I:Int)+i)/\(0<=b/\b < 2+(I:Int)+i)/\(0<=c/\c < 2+(I:Int)+i)/\(0<=n/\n < 64)):KZ (2+(I:Int)+i) ⟨o,a,b,c,n⟩:=⟨h.1,h.2.1,h.2.2.1,h.2.2.2.1,h.2.2.2.2⟩
theorem gX1:ca pT.ins.length pT.aT:=⟨by decide,λi g h=>by
 rcases i with _|_|_|i
 ·cases h;exact EZ (I:=4) (i:=0) (by decide)
 ·cases h;exact EZ (I:=4) (i:=1) (by decide)
 ·cases h;exact EZ (I:=4) (i:=2) (by decide)
 ·simp [pT] at h⟩
theorem gX2:ca pU.ins.length pU.aT:=⟨by decide,λi g h=>by
 rcases i with _|_|_|_|i
 ·cases h;exact EZ (I:=5) (i:=0) (by decide)
 ·cases h;exact EZ (I:=5) (i:=1) (by decide)
 ·cases h;exact EZ (I:=5) (i:=2) (by decide)
 ·cases h;exact EZ (I:=5) (i:=3) (by decide)
 ·simp [pU] at h⟩
theorem Vk:G9 pT vT WY 0:=⟨gX1,by decide,by decide,by kernel_rfl⟩
theorem afE:G9 pU WZ cX2 0:=⟨gX2,by decide,by decide,by kernel_rfl⟩
def Qg:eT:=(kF 5 pU.aT).getD ⟨[],[],[]⟩
theorem aun:ca pU.ins.length pU.aT/\kF pU.ins.length pU.aT=some Qg:=⟨gX2,by kernel_rfl⟩
theorem ao6:Qg.labels=[0,0,0,0,0,0,0,1,1,1,2]:=by kernel_rfl
theorem dX1:y9 vT=1:=by kernel_rfl
theorem dX2:y9 WZ=2:=by kernel_rfl
theorem vX1:El vT=true:=by kernel_rfl
theorem vX0:El ⟨0,[],[2]⟩=false:=by kernel_rfl
theorem Qh:iA [] [true,true,false,true] vT.cells=[false,true,true,true,false,true,true]:=by kernel_rfl
theorem kX0:wS (mA pT.ins.length pT.aT pT.bj vT ⟨[],[]⟩)=260:=by kernel_rfl
def uw (b:Bool):Net:=if b then pU else pT
@[reducible] noncomputable def aq0:jT where
 α:=Bool
 args b:=[.b (λ_=>b)]
 pre b:=True
 β:=Net
 post b y:=y=uw b
 res b y:=.agg (jr y)
noncomputable def auo (n m:Nat):Ctx:=dH n m [] [] [] [] [2] [45]
theorem ao7 (n m:Nat):CB PP (auo n m):=dK n m trivial trivial
noncomputable def cTw (n m:Nat):Ctx:=dH n m [] []
theorem aq1 (n m:Nat):CB PP (cTw n m):=dK n m trivial trivial
theorem ama:k7 PP 103 aq0:=by
 refine qS (ao7 0 0) (fo Tryz.func103) (λa=>⟨trivial,trivial⟩) (λa y=>mu y) ?_
 intro b hb
 clear hb
 have h1:b=false->pT=uw b:=λh=>by rw [h];rfl
 have h2:b=true->pU=uw b:=λh=>by rw [h];rfl
 refine ⟨?_⟩
 cbv
 refine ⟨[⟨3,0,0⟩,⟨3,1,0⟩,⟨3,2,0⟩,⟨3,3,0⟩],⟨by exact cj,rfl⟩,?_⟩
 cbv
 refine ⟨[⟨5,0,0⟩],⟨by exact cj,rfl⟩,?_⟩
 cbv
 refine Sat.j2 (aq1 0 0) ?_
 cbv
 refine ⟨λh=>?_,λh=>?_⟩
 ·have e:=h2 h.out
  clear h
  cbv
  refine ⟨[⟨3,4,0⟩],⟨by exact cj,rfl⟩,?_⟩
  cbv
  refine ⟨[⟨3,4,0⟩],⟨by exact bp,by decide,by decide⟩,?_⟩
  cbv
  exact .mk' pU ⟨by exact bp⟩ e
 ·have e:=h1 h.out
  clear h
  cbv
  exact .mk' pT ⟨by exact bp⟩ e
@[reducible] noncomputable def aej:Vc.Spec where
 α:=Bool
 args b:=[.b (λ_=>b)]
 pre b:=True
 res b:=.agg (jr (uw b))
theorem anq:cR (PP ()) 103 aej:=akX ama (Dp Tryz.func103 (by kernel_rfl)) (λa=>a) (λa=>rfl) (λa h=>trivial) (λa y _ hy=>by
 show SV.agg (jr y)=SV.agg (jr (uw a))
 rw [hy]) (λa=>mu _) rfl
@[reducible] noncomputable def aup:Vc.Spec:=G8
@[reducible] noncomputable def Vm:Vc.Spec where
 α:=Unit
 args u:=[]
 pre u:=True
 res u:=.b (λ_=>true)
noncomputable def auq (n m:Nat):Ctx:=dH n m [(33,Tryz.f33),(34,Tryz.f34)] [(103,aej),(104,Pe),(36,afc),(46,Vj),(39,Pp),(44,O9),(49,Po),(105,UR),(38,aup)]
theorem ao8 (n m:Nat):CB PP (auq n m):=dK n m ⟨fo Tryz.func33,fo Tryz.func34,trivial⟩ ⟨anq,TA,aoA,acZ,acW,Tz,TF,acA,aow,trivial⟩
theorem ac0:cR (PP ()) 29 Vm:=by
 refine et (ao8 0 0) (fo Tryz.func29) (λa=>trivial) (λa=>trivial) ?_
 intro u hx
 clear hx
 have w1:(uw false).ins=pT.ins:=rfl
 have w2:(uw false).aT=pT.aT:=rfl
 have w3:(uw false).outs=pT.outs:=rfl
 have w4:(uw false).bj=pT.bj:=rfl
 have u1:(uw true).ins=pU.ins:=rfl
 have u2:(uw true).aT=pU.aT:=rfl
 have u3:(uw true).outs=pU.outs:=rfl
 have u4:(uw true).bj=pU.bj:=rfl
 have O1:=U9 Vk
 have O2:=U9 afE
 have ri:U7 ⟨vT,WY,0⟩ ⟨vT,WY,0⟩ true:=⟨O1.e6,O1.e6,by simp⟩
 have lZ:Pq vT 1:=⟨O1.v,O1.e6.m.cin,O1.e6.m.dr,dX1⟩
 have P3:Pq WZ 2:=⟨O2.v,O2.e6.m.cin,O2.e6.m.dr,dX2⟩
 have nB:OB vT:=⟨O1.e6.m.cells,O1.e6.m.cin,O1.e6.m.dr⟩
 have ib:OB ⟨0,[],[2]⟩:=⟨by decide,λx hx=>(by cases hx),by decide⟩
 have WI:(!El vT)=true->False:=λh=>by rw [vX1] at h;cases h
 have lU:G5 pT vT ⟨[],[]⟩ 260:=⟨gX1,Vk.e6,O1.e6.m.cells,O1.e6.m.cin,λl hl=>(by cases hl),kX0⟩
 have Qi:Pn vT [true,true,false,true] []:=⟨O1.v,rfl⟩
 have V7:((iA [] [true,true,false,true] [⟨[2,3,4,5],63624,-1⟩]).length:Int)=7:=by rw [show iA [] [true,true,false,true] [⟨[2,3,4,5],63624,-1⟩]=_ from Qh];rfl
 have he6:(iA [] [true,true,false,true] [⟨[2,3,4,5],63624,-1⟩])[6]?=some true:=by rw [show iA [] [true,true,false,true] [⟨[2,3,4,5],63624,-1⟩]=_ from Qh];rfl
 have he4:(iA [] [true,true,false,true] [⟨[2,3,4,5],63624,-1⟩])[4]?=some false:=by rw [show iA [] [true,true,false,true] [⟨[2,3,4,5],63624,-1⟩]=_ from Qh];rfl
 have Py:(iA [] [true,true,false,true] [⟨[2,3,4,5],63624,-1⟩])[1]?=some true:=by rw [show iA [] [true,true,false,true] [⟨[2,3,4,5],63624,-1⟩]=_ from Qh];rfl
 have su:=(bt.1 he6).1
 have tw:4 < (iA [] [true,true,false,true] [⟨[2,3,4,5],63624,-1⟩]).length:=CY (by decide) su
 have iW:1 < (iA [] [true,true,false,true] [⟨[2,3,4,5],63624,-1⟩]).length:=CY (by decide) su
 have hla:=aun
 have gR:Qg.labels=[0,0,0,0,0,0,0,1,1,1,2]:=ao6
 have Ly:([0,0,0,0,0,0,0,1,1,1,2]:List Int).length<=1000000000000/\([0,0,0,0,0,0,0,1,1,1,2]:List Int).length<=1000000000000:=⟨by decide,by decide⟩
 have hsf:lE ([0,0,0,0,0,0,0,1,1,1,2]:List Int) [0,0,0,0,0,0,0,1,1,1,2]=true:=AZ.2 rfl
 have jA:(!El ⟨0,[],[2]⟩)=true:=by rw [vX0];rfl
 obtain ⟨S,hS⟩:∃S,Qg=S:=⟨_,rfl⟩
 rw [hS] at hla gR
 refine ⟨?_⟩
 cbv
 refine ⟨false,⟨by exact bp,trivial⟩,?_⟩
 cbv
 refine ⟨⟨pT,⟨4,[⟨[2,3,4,5],63624,-1⟩],[6]⟩,⟨[8],[[2,3,4,5]]⟩,0⟩,⟨by have gS:=w1;have EG:=w2;have HA:=w3;have HB:=w4;exact bX,Vk⟩,?_⟩
 cbv
 refine ⟨⟨⟨⟨4,[⟨[2,3,4,5],63624,-1⟩],[6]⟩,⟨[8],[[2,3,4,5]]⟩,0⟩,⟨⟨4,[⟨[2,3,4,5],63624,-1⟩],[6]⟩,⟨[8],[[2,3,4,5]]⟩,0⟩,true⟩,⟨.inl ⟨by exact bp,rfl⟩,ri⟩,?_⟩
 cbv
 refine ⟨λh=>?_,λh=>?_⟩
 ·have h:=h.out
  cases (show False from by simp at h)
 clear h
 cbv
 refine ⟨⟨⟨4,[⟨[2,3,4,5],63624,-1⟩],[6]⟩,1⟩,⟨by exact bp,lZ⟩,?_⟩
 cbv
 refine ⟨λh=>?_,λh=>?_⟩
 ·have h':¬(1:Int)=1:=aH
  cases (show False from h' rfl)
 clear h
 cbv
 refine ⟨⟨⟨4,[⟨[2,3,4,5],63624,-1⟩],[6]⟩⟩,⟨by exact bp,nB⟩,?_⟩
 cbv
 refine ⟨λh=>?_,λh=>?_⟩
 ·have h:=h.out
  cases (show False from WI h)
 clear h
 cbv
 refine ⟨⟨pT,⟨4,[⟨[2,3,4,5],63624,-1⟩],[6]⟩,⟨[8],[[2,3,4,5]]⟩,0⟩,⟨by exact bp,O1.ck⟩,?_⟩
 cbv
 refine ⟨λh=>?_,λh=>?_⟩
 ·have h':¬(0:Int)=0:=aH
  cases (show False from h' rfl)
 clear h
 cbv
 refine ⟨⟨pT,⟨4,[⟨[2,3,4,5],63624,-1⟩],[6]⟩,⟨[],[]⟩,260⟩,⟨by exact bp,lU⟩,?_⟩
 cbv
 refine ⟨λh=>?_,λh=>?_⟩
 ·have h':¬(260:Int)=260:=aH
  cases (show False from h' rfl)
 clear h
 cbv
 refine ⟨⟨⟨4,[⟨[2,3,4,5],63624,-1⟩],[6]⟩,[true,true,false,true],[]⟩,⟨.inl ⟨by exact bp,rfl⟩,Qi⟩,?_⟩
 cbv
 refine ⟨true,⟨by exact bp,trivial⟩,?_⟩
 cbv
 refine ⟨⟨pU,⟨5,[⟨[2,3,4,5],63624,-1⟩,⟨[6,7],6,-1⟩],[8]⟩,⟨[9,10],[[2,3,4,5],[6,9]]⟩,0⟩,⟨by have gS:=u1;have EG:=u2;have HA:=u3;have HB:=u4;exact bX,afE⟩,?_⟩
 cbv
 refine ⟨true,⟨by exact bp,trivial⟩,?_⟩
 cbv
 refine ⟨⟨pU,some S⟩,⟨by have gS:=u1;have EG:=u2;have HA:=u3;have HB:=u4;exact bX,hla⟩,?_⟩
 cbv
 refine ⟨λh=>?_,λh=>?_⟩
 rotate_left
 ·have h':¬((iA [] [true,true,false,true] [⟨[2,3,4,5],63624,-1⟩]).length:Int)=7:=aH
  cases (show False from h' V7)
 clear h
 cbv
 refine ⟨true,⟨(by decide:(0:Int)<=6),he6⟩,?_⟩
 cbv
 refine ⟨λh=>?_,λh=>?_⟩
 rotate_left
 ·have h:=h.out
  cases (show False from by simp at h)
 clear h
 cbv
 refine ⟨false,⟨(by decide:(0:Int)<=4),he4⟩,?_⟩
 cbv
 refine ⟨λh=>?_,λh=>?_⟩
 rotate_left
 ·have h:=h.out
  cases (show False from by simp at h)
 clear h
 cbv
 refine ⟨true,⟨(by decide:(0:Int)<=1),Py⟩,?_⟩
 cbv
 refine ⟨λh=>?_,λh=>?_⟩
 rotate_left
 ·have h:=h.out
  cases (show False from by simp at h)
 clear h
 cbv
 refine ⟨λh=>?_,λh=>?_⟩
 rotate_left
 ·have h':¬(0:Int)=0:=aH
  cases (show False from h' rfl)
 clear h
 cbv
 refine ⟨⟨⟨5,[⟨[2,3,4,5],63624,-1⟩,⟨[6,7],6,-1⟩],[8]⟩,2⟩,⟨by exact bp,P3⟩,?_⟩
 cbv
 refine ⟨λh=>?_,λh=>?_⟩
 rotate_left
 ·have h':¬(2:Int)=2:=aH
  cases (show False from h' rfl)
 clear h
 cbv
 refine ⟨⟨[0,0,0,0,0,0,0,1,1,1,2],[0,0,0,0,0,0,0,1,1,1,2]⟩,⟨.inl ⟨by have gS:=gR;exact bX,rfl⟩,Ly⟩,?_⟩
 cbv
 refine ⟨λh=>?_,λh=>?_⟩
 rotate_left
 ·have h:=h.out
  cases (show False from Bool.noConfusion (hsf.symm.trans h))
 clear h
 cbv
 refine ⟨⟨⟨0,[],[2]⟩⟩,⟨.inl ⟨by exact bp,rfl⟩,ib⟩,?_⟩
 cbv
 exact ⟨by have kQ:=jA;exact bX⟩
structure Vn (m:ej):Prop where
 v:BE m
 f:zl m
@[reducible] noncomputable def Pr:Vc.Spec where
 α:=afC
 args x:=[.agg (wR x.m)]
 pre x:=Vn x.m
 res x:=.bc true
theorem shF {l:Nat} {xt:Int} (hl:l<=4) (h0:0<=xt) (h1:xt < 2^(2^l)):0<=IntKind.u64.wrap (if (l:Int)<=4 then (l:Int) else 4)/\0<=IntKind.u64.wrap (1*2^min (IntKind.u64.wrap (if (l:Int)<=4 then (l:Int) else 4)).toNat IntKind.u64.bits) /\
  eW (xt.fdiv (2^min (IntKind.u64.wrap (1*2^min (IntKind.u64.wrap (if (l:Int)<=4 then (l:Int) else 4)).toNat IntKind.u64.bits)).toNat IntKind.i64.bits)) 0=true:=by
 have main:∀p:Int,0 < p->xt < p->eW (xt.fdiv p) 0=true:=λp hp h=>by
  rw [Int.fdiv_eq_ediv_of_nonneg _ (by omega),Int.ediv_eq_zero_of_lt h0 h];rfl
 have:l=0\/l=1\/l=2\/l=3\/l=4:=by omega
 rcases this with e|e|e|e|e<;>subst e<;>refine ⟨by decide,by decide,main _ (by decide) (Int.lt_of_lt_of_le h1 (by decide))⟩
noncomputable def aur (n m:Nat):Ctx:=dH n m [] []
theorem N2 (n m:Nat):CB PP (aur n m):=dK n m trivial trivial
theorem TJ:cR (PP ()) 40 Pr:=by
 refine et (N2 0 0) (fo Tryz.func40) (λa=>⟨y4 a.m,trivial⟩) (λa=>trivial) ?_
 rintro ⟨⟨mn,mc,md⟩⟩ hx
 obtain ⟨hv,hf⟩:Vn ⟨mn,mc,md⟩:=hx
 have HV:0<=mn:=hv.n0
 have hm6:2+mn+(mc.length:Int)<=600:=hv.n6
 have xh:md.length<=1000000:=hf.dr
 have Cm:∀s∈md,0<=s/\s < 2+mn+mc.length:=hv.dr
 have n8:∀(i:Nat) (xi:List Int) (xt xr:Int),mc[i]?=some ⟨xi,xt,xr⟩->((xr=-1/\xi.length<=4/\0<=xt/\xt < 2^(2^xi.length))\/(0<=xr/\xr < 64/\xi.length=3/\xt=0))/\∀s∈xi,0<=s/\s < 2+mn+i:=λi xi xt xr hx=>by
  obtain ⟨c1,c2⟩:=hv.cell i _ hx
  refine ⟨?_,c2⟩
  simp only [px,ug,uh,cQ,decide_eq_true_eq] at c1
  omega
 have KC:mc.length<=600:=by omega
 have aus:¬600 < mn:=by omega
 have mK:IntKind.i64.wrap (2+mn)=2+mn:=dt (by omega) (by omega)
 have pc:∀j:Nat,j<=600->IntKind.i64.wrap (IntKind.i64.wrap (2+mn)+(j:Int))=2+mn+j:=λj hj=>by rw [mK];exact dt (by omega) (by omega)
 have EY:=pc mc.length KC
 have aut:¬600 < IntKind.i64.wrap (IntKind.i64.wrap (2+mn)+(mc.length:Int)):=by rw [EY];omega
 clear hv hf
 refine ⟨?_⟩
 cbv
 refine ⟨λh=>?_,λh=>?_⟩
 ·have aP:mn < 0:=aH
  cases (show False by omega)
 clear h
 cbv
 refine ⟨λh=>?_,λh=>?_⟩
 ·have aP:600 < mn:=aH
  cases (show False from aus aP)
 clear h
 cbv
 refine ⟨λh=>?_,λh=>?_⟩
 ·have aP:600 < IntKind.i64.wrap (IntKind.i64.wrap (2+mn)+(mc.length:Int)):=by simpa [dw] using h.out
  cases (show False from aut aP)
 clear h
 cbv
 refine Sat.dq (N2 0 0) 1 3 [] (λi:Nat=>[(3,.i .i64 (λ_=>(i:Int)))]) (λ_=>[]) (λi=>i<=mc.length) (λi=>mc.length - i) 0 (by exact aM) (by exact aM) (cg _) ?_
 intro i hi
 have hi:i<=mc.length:=hi
 have dV:=n0 i
 have e7:=dC (i:=i) (by omega)
 have sy:=pc i (by omega)
 refine (⟨_,rfl⟩:∃L,2+mn+(i:Int)=L).elim λL hL=>?_
 cbv
 refine ⟨λh=>?_,λh=>?_⟩
 ·have bM:i < mc.length:=aH
  have bZ:mc.length - (i+1) < mc.length - i:=by omega
  refine (bO bM).elim λx=>?_
  refine x.casesOn λxi xt xr hx=>?_
  obtain ⟨hc,hs⟩:=n8 i xi xt xr hx
  rw [hL] at sy hs
  have jM:xi.length<=4:=by omega
  clear h n8
  cbv
  refine ⟨⟨xi,xt,xr⟩,⟨dV,hx⟩,?_⟩
  cbv
  refine Sat.dq (N2 0 0) 2 6 [] (λj:Nat=>[(6,.i .i64 (λ_=>(j:Int)))]) (λ_=>[]) (λj=>j<=xi.length) (λj=>xi.length - j) 0 (by exact aM) (by exact aM) (cg _) ?_
  intro j hj
  have hj:j<=xi.length:=hj
  have iM:=n0 j
  have j3:=dC (i:=j) (by omega)
  cbv
  refine ⟨λh=>?_,λh=>?_⟩
  ·have eo:j < xi.length:=aH
   have HL:xi.length - (j+1) < xi.length - j:=by omega
   refine (bO eo).elim λs E4=>?_
   obtain ⟨s0,s1⟩:=hs s (cB E4)
   have s2:¬IntKind.i64.wrap (IntKind.i64.wrap (2+mn)+(i:Int))<=s:=by rw [sy];omega
   clear h
   cbv
   refine ⟨s,⟨iM,E4⟩,?_⟩
   cbv
   refine ⟨λh=>?_,λh=>?_⟩
   ·have aP:s < 0:=aH
    cases (show False by omega)
   clear h
   cbv
   refine ⟨s,⟨iM,E4⟩,?_⟩
   cbv
   refine ⟨λh=>?_,λh=>?_⟩
   ·have aP:IntKind.i64.wrap (IntKind.i64.wrap (2+mn)+(i:Int))<=s:=by simpa [gI] using h.out
    cases (show False from s2 aP)
   clear h
   cbv
   exact ⟨j+1,by have bH:=j3;exact bh,by exact aM,⟨⟨eo,HL⟩⟩⟩
  clear h
  rcases hc with ⟨c1,c2,c3,c4⟩|⟨c1,c2,c3,c4⟩
  ·obtain ⟨n1,n2,e⟩:=shF c2 c3 c4
   cbv
   refine ⟨λh=>?_,λh=>?_⟩
   rotate_left
   ·have q1:¬xr=-1:=aH
    cases (show False from q1 c1)
   clear h
   cbv
   refine ⟨λh=>?_,λh=>?_⟩
   rotate_left
   ·have q1:gI (xi.length:Int) 4=false:=h.out
    cases (show False by simp [gI] at q1;omega)
   clear h
   cbv
   refine ⟨λh=>?_,λh=>?_⟩
   rotate_left
   ·have q1:¬0<=xt:=aH
    cases (show False from q1 c3)
   clear h
   cbv
   refine ⟨⟨n1⟩,⟨n2⟩,?_⟩
   cbv
   refine ⟨λh=>?_,λh=>?_⟩
   ·have q1:=h.out
    cases (show False by simp only [pw] at q1;rw [e] at q1;cases q1)
   clear h
   cbv
   exact ⟨i+1,by have bH:=e7;exact bh,by exact aM,⟨⟨bM,bZ⟩⟩⟩
  ·have c3':(xi.length:Int)=3:=by omega
   cbv
   refine ⟨λh=>?_,λh=>?_⟩
   ·have q1:xr=-1:=aH
    cases (show False by omega)
   clear h
   cbv
   refine ⟨λh=>?_,λh=>?_⟩
   ·have q1:xr < 0:=aH
    cases (show False by omega)
   clear h
   cbv
   refine ⟨λh=>?_,λh=>?_⟩
   ·have q1:63 < xr:=aH
    cases (show False by omega)
   clear h
   cbv
   refine ⟨λh=>?_,λh=>?_⟩
   ·have q1:¬(xi.length:Int)=3:=aH
    cases (show False from q1 c3')
   clear h
   cbv
   refine ⟨λh=>?_,λh=>?_⟩
   ·have q1:¬xt=0:=aH
    cases (show False from q1 c4)
   clear h
   cbv
   exact ⟨i+1,by have bH:=e7;exact bh,by exact aM,⟨⟨bM,bZ⟩⟩⟩
 ·clear h
  cbv
  refine Sat.dq (N2 0 0) 1 3 [] (λj:Nat=>[(8,.i .i64 (λ_=>(j:Int)))]) (λ_=>[]) (λj=>j<=md.length) (λj=>md.length - j) 0 (by exact aM) (by exact aM) (cg _) ?_
  intro j hj
  have hj:j<=md.length:=hj
  have iM:=n0 j
  have j3:=dC (i:=j) (by omega)
  cbv
  refine ⟨λh=>?_,λh=>?_⟩
  ·have eo:j < md.length:=aH
   have HL:md.length - (j+1) < md.length - j:=by omega
   refine (bO eo).elim λs E4=>?_
   obtain ⟨s0,s1⟩:=Cm s (cB E4)
   have s2:¬IntKind.i64.wrap (IntKind.i64.wrap (2+mn)+(mc.length:Int))<=s:=by rw [EY];omega
   clear h
   cbv
   refine ⟨s,⟨iM,E4⟩,?_⟩
   cbv
   refine ⟨λh=>?_,λh=>?_⟩
   ·have aP:s < 0:=aH
    cases (show False by omega)
   clear h
   cbv
   refine ⟨s,⟨iM,E4⟩,?_⟩
   cbv
   refine ⟨λh=>?_,λh=>?_⟩
   ·have aP:IntKind.i64.wrap (IntKind.i64.wrap (2+mn)+(mc.length:Int))<=s:=by simpa [gI] using h.out
    cases (show False from s2 aP)
   clear h
   cbv
   exact ⟨j+1,by have bH:=j3;exact bh,by exact aM,⟨⟨eo,HL⟩⟩⟩
  clear h
  cbv
  exact ⟨by exact bp⟩
theorem IG {P:Unit->Program} {f:FuncId} {S:jT} {T:Vc.Spec} {fn:Func} (I:k7 P f S) (F:lz (P ()) f fn) (c:T.α->S.α) (ha:∀a,T.args a=S.args (c a)) (hp:∀a,T.pre a->S.pre (c a)) (hr:∀a y,T.pre a->S.post (c a) y->S.res (c a) y=T.res a) (EH:∀a,LF (T.res a)) (kO:T.fr=false):cR (P ()) f T where
 fn:=⟨fn,F⟩
 lf:=λa=>by rw [ha];exact I.lf _
 lr:=EH
 fresh:=λh=>by rw [kO] at h;cases h
 run:=λa eD H F' w vals hH hF jI=>by
  rw [ha] at jI
  refine (I.run (c a) (hp a eD) H F' w vals hH hF jI).mono ?_
  rintro e w' ⟨y,v,H',h1,h2,h3,h4,h5,h6,h7,h8⟩
  rw [hr a y eD h1] at h7
  exact ⟨v,H',h2,h3,h4,h5,h6,h7,h8⟩
theorem abR {n:Net} {lv:List (List Int)} {nd:List Bool} (cO:∀(u:Nat) (l:List Int),2+n.ins.length<=u->lv[u]?=some l->∀x∈l,0<=x) (kP:lv.length=2+n.ins.length+n.aT.length) (hc:qI n lv (2+n.ins.length) nd) (hs:Sound n lv nd) (v:Nat) :
  nd[v]?=some true↔n9 (λu=>if u < 2+n.ins.length then [] else lv.getD u []) (λu=>∃d∈n.bj,d.toNat=u) v:=by
 refine ⟨hs v,λh=>?_⟩
 induction h with
 | base h=>obtain ⟨d,hd,rfl⟩:=h;exact hc.dr d hd
 | @step u x h1 h2 ih =>
  have h2:x∈(if u < 2+n.ins.length then [] else lv.getD u []):=h2
  split at h2
  ·cases h2
  ·rename_i hu
   cases hq:lv[u]? with
   | none=>rw [List.getD_eq_getElem?_getD,hq] at h2;cases h2
   | some l =>
    rw [List.getD_eq_getElem?_getD,hq] at h2
    exact hc.cl u l (by omega) (by omega) ih hq x h2
theorem aj5 {nd Qj:List Bool} {I v:Nat} (h:∀u:Nat,nd[u]?=some true↔Qj[u]?=some true):js nd I v=js Qj I v :=
 (SF nd I v).ext (SF Qj I v) λx=>by
  rw [Db,Db]
  constructor
  ·rintro ⟨u,a,b,c,d⟩;exact ⟨u,a,b,(h u).1 c,d⟩
  ·rintro ⟨u,a,b,c,d⟩;exact ⟨u,a,b,(h u).2 c,d⟩
theorem amb {n:Net} {lv:List (List Int)} {m m':ej} {R R':List Int} {V V':List (List Int)} (cO:∀(u:Nat) (l:List Int),2+n.ins.length<=u->lv[u]?=some l->∀x∈l,0<=x) (kP:lv.length=2+n.ins.length+n.aT.length)
  (h:DA n lv m R V) (k:DA n lv m' R' V'):m=m'/\R=R'/\V=V':=by
 obtain ⟨nd,a1,a2,a3,a4,a5⟩:=h.ex
 obtain ⟨Qj,b1,b2,b3,b4,b5⟩:=k.ex
 have e:R=R':=by
  rw [a3,b3]
  exact aj5 λu=>(abR cO kP a1 a2 u).trans (abR cO kP b1 b2 u).symm
 subst e
 exact ⟨by rw [a5,b5],rfl,by rw [a4,b4]⟩
structure aek where
 n:Net
 b:List Int
 y:BH
structure Ud (x:aek):Prop where
 G:ca x.n.ins.length x.n.aT
 d:x.n.bj.length<=1000000/\∀d∈x.n.bj,0<=d/\d < 2+(x.n.ins.length:Int)+x.n.aT.length
 b:x.b.length<=1000/\∀z∈x.b,0<=z/\z<=255
 y:Er x.n x.b x.y
theorem Nc (n:Net) (b:List Int) (v:Nat):(oB n b v).length=v:=by unfold oB;simp
theorem anr {n:Net} {lv:List (List Int)} (hl:lv.length=2+n.ins.length+n.aT.length) (hg:Good n.ins.length n.aT lv):∀(u:Nat) (l:List Int),2+n.ins.length<=u->lv[u]?=some l->∀x∈l,0<=x:=λu l hu BL x hx=>by
 have aP:=(bt.1 BL).1
 obtain ⟨g,jX⟩:=bO (l:=n.aT) (i:=u - 2 - n.ins.length) (by omega)
 have:=hg (u - 2 - n.ins.length) g l jX (by rw [show 2+n.ins.length+(u - 2 - n.ins.length)=u by omega];exact BL)
 exact (this.1 x hx).1
theorem amc {n:Net} {b:List Int} {y z:BH} (hy:Er n b y) (hz:Er n b z):y=z:=by
 obtain ⟨m,R,V,e⟩:=y
 obtain ⟨m',R',V',e'⟩:=z
 have hl:=Nc n b (2+n.ins.length+n.aT.length)
 obtain ⟨h1,h2,h3⟩:=amb (anr hl hy.zw) hl hy.out hz.out
 have h4:e=e':=by have h1:=hy.e;have h2:=hz.e;simp only at h1 h2;rw [h1,h2]
 simp only at h1 h2 h3
 rw [h1,h2,h3,h4]
@[reducible] noncomputable def afF:Vc.Spec where
 α:=aek
 args x:=[.agg (jr x.n),.sl 1 nA (λ_=>x.b)]
 pre x:=Ud x
 res x:=Hb x.y
theorem ao9:cR (PP ()) 42 afF:=IG aoY (Dp Tryz.func42 (by kernel_rfl)) (λa=>⟨a.n,a.b⟩) (λa=>rfl) (λa h=>⟨h.G,h.d,h.b.1,h.b.2⟩) (λa y ha hy=>by
 have hy:Er a.n a.b y:=hy
 show Hb y=Hb a.y
 rw [amc hy ha.y]) (λa=>S9 a.y) rfl
theorem amd {I:Nat} {gs:List Gate} (G:ca I gs) {r:Int} (hr:0<=r):∀(bs:List Int),rU I gs r (mC I gs r bs):=by
 intro bs
 unfold mC
 suffices H:∀(bs:List Int) (L:List Int),rU I gs r L->rU I gs r (bs.foldl (wI I gs r) L) from H bs _ ⟨.inl rfl⟩
 intro bs
 induction bs with
 | nil=>intro L h;exact h
 | cons z bs ih =>
  intro L h
  rw [kW]
  refine ih _ ?_
  unfold wI
  cases hv:L[(z.tmod L.length).toNat]? with
  | none=>exact h
  | some v =>
   simp only
   split
   ·exact h
   ·split
    ·rename_i hc
     refine ⟨.inr ⟨λx hx=>?_,hc⟩⟩
     have hk:=(bt.1 hv).1
     have yw:=h.pick.le hr v (cB hv)
     rcases Tb.1 hx with hx|⟨hx,_⟩
     ·exact h.pick.cut hk x hx
     ·have:=aaQ G yw.1 hx;omega
    ·exact h
theorem ame {n:Net} (G:ca n.ins.length n.aT) (b:List Int):Good n.ins.length n.aT (oB n b (2+n.ins.length+n.aT.length))/\Jm n (oB n b (2+n.ins.length+n.aT.length)):=by
 have key:∀(
        v:Nat) (l:List Int),2+n.ins.length<=v->(oB n b (2+n.ins.length+n.aT.length))[v]?=some l->qs n v l/\Gn n.ins.length n.aT v l:=λv l hv hl=>by
  have aP:=(bt.1 hl).1
  rw [Nc] at aP
  have e:l=yC n b v:=by
   unfold oB at hl
   rw [mq,MI aP] at hl
   simp only [Aw,rI] at hl
   rw [<-hl,if_neg (by omega)]
  cases hr:kR n v with
  | true=>rw [e,<-aaS hr];exact ZH G hv aP hr
  | false =>
   have hp:=amd G (show (0:Int)<=(v:Int) by omega) ([0]++z6 b v)
   by_cases bW:mC n.ins.length n.aT v ([0]++z6 b v)=[(v:Int)]
   ·have ho:Br (iy n.ins.length n.aT v) (pe [] (iy n.ins.length n.aT v)):=by
     have hf:∀ops:List Int,∀u:List Int,(pe u ops).length<=u.length+ops.length:=λops=>by
      unfold pe
      induction ops with
      | nil=>intro u;simp
      | cons o r ih =>
       intro u
       rw [kW]
       have:=ih (if 2<=o then iS u [o] else u)
       have h2:(if 2<=o then iS u [o] else u).length<=u.length+1:=by
        split
        ·have:=Q7 (a:=u) (b:=[o]);simpa using this
        ·omega
       simp only [qd];omega
     refine ⟨abN .nil,λz=>by rw [Tb];simp,?_⟩
     have:=hf (iy n.ins.length n.aT v) []
     have:=R8 n.ins.length n.aT v
     simp at *;omega
    rw [e,<-abO hr rfl bW ho]
    exact aaR G hv aP hr ho
   ·rw [e,<-SG hr rfl bW]
    exact R9 G hv aP hr hp bW
 refine ⟨λi g l hg hl=>?_,Nc _ _ _,λu l hu hl=>(key u l hu hl).1⟩
 exact (key (2+n.ins.length+i) l (by omega) hl).2 i g rfl hg
theorem aq2 {n:Net} (hd:∀d∈n.bj,0<=d/\d < 2+(n.ins.length:Int)+n.aT.length) {lv:List (List Int)} (hl:Jm n lv):∃nd,qI n lv (2+n.ins.length) nd/\Sound n lv nd:=by
 have hx:∀(v:Nat) (x:Int),x∈(λu=>if u < 2+n.ins.length then [] else lv.getD u []) v->0<=x/\x < v:=λv x h=>by
  have h:x∈(if v < 2+n.ins.length then [] else lv.getD v []):=h
  split at h
  ·cases h
  ·cases hq:lv[v]? with
   | none=>rw [List.getD_eq_getElem?_getD,hq] at h;cases h
   | some l=>rw [List.getD_eq_getElem?_getD,hq] at h;exact (hl.ok v l (by omega) hq).mem x h
 obtain ⟨N,hN⟩:∃N,N=2+n.ins.length+n.aT.length:=⟨_,rfl⟩
 have h1:∀v:Nat,(zk (λu=>if u < 2+n.ins.length then [] else lv.getD u []) N (xT (List.replicate N false) n.bj))[v]?=some true↔v < N/\n9 (λu=>if u < 2+n.ins.length then [] else lv.getD u []) (λu=>∃d∈n.bj,d.toNat=u) v:=λv=>by
  rw [M3 hx _ λu hu hm=>by have:=(bt.1 hm).1;rw [AJ] at this;simp at this;omega]
  rw [AJ,tT]
  refine and_congr_right λ_=>⟨λk=>k.mono λu hu=>?_,λk=>k.mono λu hu=>?_⟩
  ·rcases xz.1 hu with hu|⟨_,hu⟩
   ·simp [sI] at hu
   ·exact .base hu
  ·obtain ⟨d,lZ,rfl⟩:=hu
   refine .base (xz.2 (.inr ⟨?_,d,lZ,rfl⟩))
   have:=hd d lZ
   simp;omega
 refine ⟨_,⟨by rw [Zp,AJ,tT,hN],λd lZ=>(h1 _).2 ⟨by have:=hd d lZ;omega,.base ⟨d,lZ,rfl⟩⟩,λu l _ hu hm BL x jM=>?_⟩,λv hv=>((h1 v).1 hv).2⟩
 have hu1:=(h1 u).1 hm
 have EN:x∈(λu=>if u < 2+n.ins.length then [] else lv.getD u []) u:=by
  show x∈(if u < 2+n.ins.length then [] else lv.getD u [])
  rw [if_neg (by omega),List.getD_eq_getElem?_getD,BL];exact jM
 have:=hx u x EN
 exact (h1 _).2 ⟨by omega,.step hu1.2 EN⟩
theorem ac1 {n:Net} (G:ca n.ins.length n.aT) (hd:∀d∈n.bj,0<=d/\d < 2+(n.ins.length:Int)+n.aT.length) (b:List Int):∃y,Er n b y:=by
 obtain ⟨hg,hl⟩:=ame G b
 obtain ⟨nd,h1,h2⟩:=aq2 hd hl
 have cb:DA n (oB n b (2+n.ins.length+n.aT.length)) _ _ _:=⟨nd,h1,h2,rfl,rfl,rfl⟩
 exact ⟨⟨_,_,_,0⟩,rfl,cb,hg,ZG G hd (Nc _ _ _) hg cb⟩
def W0:TypeId->Option TI
 | 232=>some (ti .other 1 8 .nilFunc)
 | 234=>some (ti (.st [(3,0,1),(232,1,1)]) 2 16 (.agg #[.int .i64 0,.nilFunc]))
 | 235=>some (ti (.arr 6 234) 12 96 (.agg #[.int .i64 0,.nilFunc,.int .i64 0,.nilFunc,.int .i64 0,.nilFunc,.int .i64 0,.nilFunc,.int .i64 0,.nilFunc,.int .i64 0,.nilFunc]))
 | 240=>some (tS 234)
 | 241=>some (ti .other 1 8 .nilFunc)
 | _=>none
theorem apa:∀t i,W0 t=some i->ly Tryz.prog t i:=by
 intro t i h
 unfold W0 at h
 split at h
 all_goals cases h
 all_goals exact K0 rfl rfl (by kernel_rfl) (by kernel_rfl)
def t4 (t:TypeId):Option TI:=match t3 t with
 | some i=>some i
 | none=>W0 t
theorem aq3:∀t i,t4 t=some i->ly Tryz.prog t i:=by
 intro t i h
 unfold t4 at h
 split at h
 ·rename_i j hj
  cases h
  exact TV t _ hj
 ·exact apa t i h
def Hf (x:Int):List SV:=[.i .i64 λ_=>x,.cell]
theorem abS (x:Int):cI (Hf x)/\(Hf x).all SV.one=true:=⟨⟨trivial,trivial,trivial⟩,rfl⟩
def ac2:gA:=⟨Int,Hf,0⟩
def W1 (n m:Nat):TypeId->Option gA
 | 234=>some ac2
 | t=>el n m t
theorem apb (n m:Nat) (X:Ctx) (h:X.tt=t4) (t:TypeId) (E:gA) (he:W1 n m t=some E):Bh Tryz.prog X t E:=by
 unfold W1 at he
 split at he
 ·cases he
  exact ⟨⟨_,by rw [h];rfl⟩,λi hi x=>by rw [h] at hi;cases hi;rfl,abS,λi hi H=>by rw [h] at hi;cases hi;simp [ac2,Hf,dJ,aQ,rel,Value.cells];exact ⟨_,_,⟨rfl,rfl⟩,rfl,_,rfl,rfl⟩⟩
 ·exact JC (λt i h=>by unfold t4 t3 t2;rw [h]) n m X h t E he
@[reducible] def H5 (n m:Nat) (fs:List (Nat × Func)) (sp:List (Nat × Vc.Spec)) (io lp cut row emp:List Nat:=[]):Ctx:=HC t4 (W1 n m) fs sp io lp cut row emp
theorem JU (n m:Nat) {fs:List (Nat × Func)} {sp:List (Nat × Vc.Spec)} {io lp cut row emp:List Nat} (hf:tp (λf fn=>lz (PP ()) f fn/\mZ fn=true) fs) (hs:tp (λf S=>cR (PP ()) f S) sp):CB PP (H5 n m fs sp io lp cut row emp):=JK aq3 (apb n m) mixed hf hs
def wW (ms:List (List Int)) (vs:List Bool) (g:Gate):Bool:=if g.op=7 then GH ⟨[],ms⟩ g.n [eE vs g.a,eE vs g.b,eE vs g.c] else oz g.op (eE vs g.a) (eE vs g.b) (eE vs g.c)
def kH (ms:List (List Int)) (inn:List Bool) (gs:List Gate):List Bool:=gs.foldl (λvs g=>vs++[wW ms vs g]) ([false,true]++inn)
theorem M6 {A:Type} (f:List Bool->A->Bool):∀(C:List A) (D:List Bool),∃r,C.foldl (λD x=>D++[f D x]) D=D++r
 | [],D=>⟨[],by simp⟩
 | x :: C,D=>by
  obtain ⟨r,hr⟩:=M6 f C (D++[f D x])
  exact ⟨f D x :: r,by rw [kW,hr];simp⟩
theorem Sa {A:Type} (f:List Bool->A->Bool):∀(C:List A) (D:List Bool),(C.foldl (λD x=>D++[f D x]) D).length=D.length+C.length
 | [],D=>rfl
 | x :: C,D=>by rw [kW,Sa f C];simp;omega
theorem F8 {D r:List Bool} {s:Int} (h:s.toNat < D.length):eE (D++r) s=eE D s:=by
 unfold eE
 rw [List.getD_eq_getElem?_getD,j7 h,<-List.getD_eq_getElem?_getD]
theorem aaU {A:Type} (f:List Bool->A->Bool) (C:List A) (D:List Bool) {i:Nat} {x:A} (hx:C[i]?=some x) (hf:∀E E':List Bool,E.length=D.length+i->(∃r,E'=E++r)->f E' x=f E x) :
  (C.foldl (λD x=>D++[f D x]) D)[D.length+i]?=some (f (C.foldl (λD x=>D++[f D x]) D) x):=by
 have hi:=(bt.1 hx).1
 have e:C.foldl (λD x=>D++[f D x]) D=(C.drop (i+1)).foldl (λD x=>D++[f D x]) ((C.take i).foldl (λD x=>D++[f D x]) D++[f ((C.take i).foldl (λD x=>D++[f D x]) D) x]):=by
  conv=>lhs;rw [<-List.take_append_drop (i+1) C]
  rw [List.foldl_append,jR,hx,oQ,List.foldl_append]
  rfl
 have hl:=Sa f (C.take i) D
 rw [iw,sK (by omega)] at hl
 obtain ⟨r,hr⟩:=M6 f (C.drop (i+1)) ((C.take i).foldl (λD x=>D++[f D x]) D++[f ((C.take i).foldl (λD x=>D++[f D x]) D) x])
 rw [e,hr,hf ((C.take i).foldl (λD x=>D++[f D x]) D) _ hl ⟨_,List.append_assoc _ _ _⟩]
 rw [List.append_assoc,qb (by omega),hl,yO]
 rfl
theorem aaV {ms:List (List Int)} {inn:List Bool} {gs:List Gate}:(kH ms inn gs).length=2+inn.length+gs.length:=by
 unfold kH
 rw [Sa];simp;omega
theorem Nr {ms:List (List Int)} {inn:List Bool} {gs:List Gate} {v:Int} (h:v.toNat < 2+inn.length):eE (kH ms inn gs) v=eE ([false,true]++inn) v:=by
 unfold kH
 obtain ⟨r,hr⟩:=M6 (wW ms) gs ([false,true]++inn)
 rw [hr]
 exact F8 (by simp;omega)
theorem ZJ {ms:List (List Int)} {inn:List Bool} {gs:List Gate} (G:ca inn.length gs) {i:Nat} {g:Gate} (hg:gs[i]?=some g):eE (kH ms inn gs) (2+inn.length+i)=wW ms (kH ms inn gs) g:=by
 have k:=G.aT i g hg
 have:=aaU (wW ms) gs ([false,true]++inn) hg λE E' hE hr=>by
  obtain ⟨r,rfl⟩:=hr
  have hl:E.length=2+inn.length+i:=by rw [hE];simp;omega
  unfold wW
  rw [F8 (by have:=k.a;omega),F8 (by have:=k.b;omega),F8 (by have:=k.c;omega)]
 have e:([false,true]++inn).length+i=2+inn.length+i:=by simp;omega
 rw [e] at this
 unfold eE
 rw [show (2+(inn.length:Int)+i).toNat=2+inn.length+i by omega,List.getD_eq_getElem?_getD]
 unfold kH at *
 rw [this];rfl
theorem abT {ms:List (List Int)} {inn:List Bool} {C:List Cell} {v:Int} (h:v.toNat < 2+inn.length):eE (iA ms inn C) v=eE ([false,true]++inn) v:=by
 unfold iA
 obtain ⟨r,hr⟩:=M6 (uv ⟨[],ms⟩) C ([false,true]++inn)
 rw [hr]
 exact F8 (by simp;omega)
theorem ans {ms:List (List Int)} {inn:List Bool} {C:List Cell} {i:Nat} {x:Cell} (hx:C[i]?=some x) (dz:∀s∈x.ins,0<=s/\s < 2+(inn.length:Int)+i):eE (iA ms inn C) (2+inn.length+i)=uv ⟨[],ms⟩ (iA ms inn C) x:=by
 have:=aaU (uv ⟨[],ms⟩) C ([false,true]++inn) hx λE E' hE hr=>by
  obtain ⟨r,rfl⟩:=hr
  have hl:E.length=2+inn.length+i:=by rw [hE];simp;omega
  have hm:x.ins.map (eE (E++r))=x.ins.map (eE E):=qM λs hs=>F8 (by have:=dz s hs;omega)
  unfold uv
  rw [hm]
 have e:([false,true]++inn).length+i=2+inn.length+i:=by simp;omega
 rw [e] at this
 unfold eE
 rw [show (2+(inn.length:Int)+i).toNat=2+inn.length+i by omega,List.getD_eq_getElem?_getD]
 unfold iA at *
 rw [this];rfl
theorem ant (x:Nat) (h:x < 2^64):fN .and .i64 (x:Int) 1=((x % 2:Nat):Int):=by
 have e:fN .and .i64 (x:Int) 1=IntKind.i64.wrap ((BitVec.ofInt 64 (x:Int) &&& BitVec.ofInt 64 1).toNat:Int):=rfl
 have e2:(BitVec.ofInt 64 (x:Int) &&& BitVec.ofInt 64 1).toNat=x % 2:=by
  rw [BitVec.toNat_and,IN,Ru,MP h]
  show x &&& 1=x % 2
  exact Nat.and_one_is_mod x
 rw [e,e2,dt (by omega) (by omega)]
theorem amf {T k:Nat} (hT:T < 2^64) (hk:k < 64):zz (T:Int) (k:Int)=T.testBit k:=by
 unfold zz
 have h1:min ((k:Int).toNat) IntKind.i64.bits=k:=by
  rw [jQ]
  exact sK (by show k<=64;omega)
 have h2:(T:Int).fdiv (2^k)=((T / 2^k:Nat):Int):=by
  rw [show ((2:Int)^k)=((2^k:Nat):Int) by push_cast;rfl]
  exact Int.ofNat_fdiv T (2^k) |>.symm
 rw [h1,h2,ant _ (Nat.lt_of_le_of_lt (Nat.div_le_self _ _) hT),Nat.testBit_eq_decide_div_mod_eq]
 unfold eW
 rw [RE]
 simp only [beq_iff_eq,decide_eq_true_eq]
 omega
theorem abU:∀bs:List Bool,bs.length<=4->∃k:Nat,k < 2^bs.length/\uu bs=(k:Int)/\∀j,j < 4->k.testBit j=bs.getD j false
 | [],_=>⟨0,by decide,rfl,by decide⟩
 | [a],_=>by cases a<;>first|exact ⟨0,by decide,rfl,by decide⟩|exact ⟨1,by decide,rfl,by decide⟩
 | [a,b],_=>by cases a<;>cases b<;>first|exact ⟨0,by decide,rfl,by decide⟩|exact ⟨1,by decide,rfl,by decide⟩|exact ⟨2,by decide,rfl,by decide⟩|exact ⟨3,by decide,rfl,by decide⟩
 | [a,b,c],_=>by cases a<;>cases b<;>cases c<;>first|exact ⟨0,by decide,rfl,by decide⟩|exact ⟨1,by decide,rfl,by decide⟩|exact ⟨2,by decide,rfl,by decide⟩|exact ⟨3,by decide,rfl,by decide⟩|exact ⟨4,by decide,rfl,by decide⟩|exact ⟨5,by decide,rfl,by decide⟩|exact ⟨6,by decide,rfl,by decide⟩|exact ⟨7,by decide,rfl,by decide⟩
 | [a,b,c,d],_=>by cases a<;>cases b<;>cases c<;>cases d<;>first|exact ⟨0,by decide,rfl,by decide⟩|exact ⟨1,by decide,rfl,by decide⟩|exact ⟨2,by decide,rfl,by decide⟩|exact ⟨3,by decide,rfl,by decide⟩|exact ⟨4,by decide,rfl,by decide⟩|exact ⟨5,by decide,rfl,by decide⟩|exact ⟨6,by decide,rfl,by decide⟩|exact ⟨7,by decide,rfl,by decide⟩|exact ⟨8,by decide,rfl,by decide⟩|exact ⟨9,by decide,rfl,by decide⟩|exact ⟨10,by decide,rfl,by decide⟩|exact ⟨11,by decide,rfl,by decide⟩|exact ⟨12,by decide,rfl,by decide⟩|exact ⟨13,by decide,rfl,by decide⟩|exact ⟨14,by decide,rfl,by decide⟩|exact ⟨15,by decide,rfl,by decide⟩
 | _ :: _ :: _ :: _ :: _ :: _,h=>by simp at h
theorem anu {I:Nat} {gs:List Gate} {root:Int} {S:List Int} (hS:S.length<=4) {k:Nat} (hk:k < 2^S.length):zz (xM I gs root S) (k:Int)=jg (fX I gs S root.toNat) k:=by
 have hP:2^S.length<=16:=by
  have:S.length=0\/S.length=1\/S.length=2\/S.length=3\/S.length=4:=by omega
  rcases this with e|e|e|e|e<;>rw [e]<;>decide
 have hm:(0:Int)<=2^(2^S.length) - 1/\(2:Int)^(2^S.length) - 1<=1000000:=by
  have:S.length=0\/S.length=1\/S.length=2\/S.length=3\/S.length=4:=by omega
  rcases this with e|e|e|e|e<;>rw [e]<;>decide
 have ht:=Nb (fX I gs S root.toNat) _ hm.1 hm.2
 have hb:=A5 (fX I gs S root.toNat) (2^(2^S.length) - 1) k
 unfold xM
 change 0<=pL (fX I gs S root.toNat) (2^(2^S.length) - 1)/\pL (fX I gs S root.toNat) (2^(2^S.length) - 1)<=2^(2^S.length) - 1 at ht
 generalize pL (fX I gs S root.toNat) (2^(2^S.length) - 1)=t at ht hb
 obtain ⟨t0,rfl⟩:∃t0:Nat,t=t0:=⟨t.toNat,by omega⟩
 rw [amf (FJ (show t0 < 1000001 by omega) (by decide)) (by omega),<-abM (by omega),hb,aaM _ (by omega) k (by omega)]
 simp [hk]
theorem aaW {ms:List (List Int)} {inn:List Bool} {gs:List Gate} (G:ca inn.length gs) {root:Int} {S l:List Int} (hc:eC inn.length gs root S=some l) {k:Nat} (hk:k < 16) (hv:∀(j:Nat) (x:Int),S[j]?=some x->k.testBit j=eE (kH ms inn gs) x) :
  ∀(n u:Nat),u < n->gM inn.length gs S root.toNat u->eE (kH ms inn gs) u=jg (fX inn.length gs S u) k
 | 0,u,h,_=>absurd h (qf _)
 | n+1,u,h,hr=>by
  have hL:=As hc
  have pR:∀x∈S,2<=x:=λx hx=>(hL.mem x hx).1
  have BN:((root.toNat:Nat):Int)=root:=Int.toNat_of_nonneg (by have:=hL.lo;omega)
  have BA:=((CS G).1 (by rw [hc];rfl)).2.1
  rw [<-BN] at BA
  have hg:=(I8 G (root.toNat+1) root.toNat (wo _)).1 BA u hr
  by_cases hm:(u:Int)∈S
  ·obtain ⟨j,hj⟩:=nG hm
   have Wn:=(bt.1 hj).1
   have tw:=hL.len
   have jC:=aaB (I:=inn.length) (gs:=gs) hL.inc.nodup hj (by omega)
   rw [jQ] at jC
   rw [jC,abL j (by omega) k hk,hv j u hj]
  ·by_cases h2:u < 2
   ·rcases (by omega:u=0\/u=1) with rfl|rfl
    ·rw [adS pR,aaL,Nr (by show 0 < _;omega)];rfl
    ·rw [adT pR,Nq k hk,Nr (by show 1 < _;omega)];rfl
   ·rcases uZ.1 hg with q|q|⟨g,rq,h7⟩
    ·exact absurd q hm
    ·exact absurd q h2
    ·obtain ⟨i,rfl,jX⟩:=lL.1 rq
     have kk:=G.aT i g jX
     rw [R0 G hm rq,aaN (by have:=kk.op;omega) hk]
     have e:=ZJ (ms:=ms) G jX
     rw [show ((2+inn.length+i:Nat):Int)=2+(inn.length:Int)+i by omega,e]
     unfold wW
     rw [if_neg h7]
     have key:∀o∈cC g,eE (kH ms inn gs) o=jg (fX inn.length gs S o.toNat) k:=λo ho=>by
      have hn:o∈oe inn.length gs S (2+inn.length+i):=qk.2 ⟨hm,g,rq,h7,ho⟩
      have aP:=Bb G hn
      have:=aaW G hc hk hv n o.toNat (by omega) (.step hr hn)
      rwa [Int.toNat_of_nonneg aP.1] at this
     exact YM (key _ (T0 g)) (λh=>key _ (T2 h)) (λh=>key _ (T3 h))
theorem abV {ms:List (List Int)} {inn:List Bool} {gs:List Gate} (G:ca inn.length gs) {bj:List Int} {m:ej} {c:k9} (h:Bd inn.length gs bj m c):∀(n j:Nat) (r:Int),j < n->c.root[j]?=some r->eE (iA ms inn m.cells) (2+inn.length+j)=eE (kH ms inn gs) r
 | 0,_,_,hj,_=>absurd hj (qf _)
 | n+1,j,r,hj,hr=>by
  have fb:∀r∈c.root,2+(inn.length:Int)<=r:=λr hr=>(h.lim r hr).1
  have eo:=(bt.1 hr).1
  obtain ⟨x,hx⟩:=bO (l:=m.cells) (i:=j) (by rw [<-h.rl];exact eo)
  obtain ⟨l,hl⟩:=bO (l:=c.leaves) (i:=j) (by rw [h.ll,<-h.rl];exact eo)
  obtain ⟨i,g,F⟩:=Km G h hx hr hl
  have hV:=((Dr G h).1.cell j _ hx).2
  rw [h.n] at hV
  rw [ans hx hV]
  have pF:x.ins.map (eE (iA ms inn m.cells))=l.map (eE (kH ms inn gs)):=by
   rw [F.ins,FO]
   refine qM λy hy=>?_
   obtain ⟨y0,y1,s,hs⟩:=F.lf y hy
   show eE (iA ms inn m.cells) ((eP inn.length c.root y).getD 0)=_
   rw [hs]
   show eE (iA ms inn m.cells) s=_
   rcases (F5 h.inc fb).1 hs with ⟨h1,h2,rfl⟩|⟨k,hk,rfl⟩
   ·rw [abT (by omega),Nr (by omega)]
   ·have hkj:k < j:=by
     have:=(NR h.inc fb hr y1 hs).2
     omega
    exact abV G h n k y (by omega) hk
  have xg:=F.er
  unfold uv
  rw [pF]
  rcases F.kind with ⟨h7,e,ht,Em⟩|⟨h7,fS,ht,Em,tw,_⟩
  ·have BP:=(G.aT i g F.eg).n
   rw [if_neg (by rw [Em];omega),xg,ZJ G F.eg,e,Em]
   unfold wW
   rw [if_pos h7]
   have ho:cC g=[g.a,g.b,g.c]:=by unfold cC jz;rw [h7];rfl
   rw [ho]
   rfl
  ·rw [if_pos (by rw [Em];decide),ht]
   obtain ⟨k,jd,rm,hk3⟩:=abU (l.map (eE (kH ms inn gs))) (by rw [iR];exact tw)
   rw [iR] at jd
   have hP:2^l.length<=16:=by
    have:l.length=0\/l.length=1\/l.length=2\/l.length=3\/l.length=4:=by omega
    rcases this with e|e|e|e|e<;>rw [e]<;>decide
   unfold DP
   rw [if_neg (by rw [iR];omega),rm,anu tw jd]
   cases hc:eC inn.length gs r l with
   | none=>rw [hc] at fS;cases fS
   | some l0 =>
    have h0:0<=r:=by omega
    have:=aaW (ms:=ms) G hc (k:=k) (by omega) (λj' y hy=>by
     have Wn:=(bt.1 hy).1
     rw [hk3 j' (by omega),List.getD_eq_getElem?_getD,mq,hy];rfl) (r.toNat+1) r.toNat (wo _) (.base rfl)
    rw [Int.toNat_of_nonneg h0] at this
    exact this.symm
theorem anv {ms:List (List Int)} {inn:List Bool} {gs:List Gate} (G:ca inn.length gs) {bj:List Int} {m:ej} {c:k9} (h:Bd inn.length gs bj m c):m.bj.map (eE (iA ms inn m.cells))=bj.map (eE (kH ms inn gs)):=by
 have fb:∀r∈c.root,2+(inn.length:Int)<=r:=λr hr=>(h.lim r hr).1
 rw [h.EJ,FO]
 refine qM λd hd=>?_
 obtain ⟨s,hs⟩:=h.OX d hd
 show eE (iA ms inn m.cells) ((eP inn.length c.root d).getD 0)=_
 rw [hs]
 show eE (iA ms inn m.cells) s=_
 rcases (F5 h.inc fb).1 hs with ⟨h1,h2,rfl⟩|⟨k,hk,rfl⟩
 ·rw [abT (by omega),Nr (by omega)]
 ·exact abV G h (k+1) k d (wo _) hk
structure B3o where
 a:Bool
 b:Bool
 c:Bool
@[reducible] noncomputable def Hg (k:Int):Vc.Spec where
 α:=B3o
 args x:=[.b (λ_=>x.a),.b (λ_=>x.b),.b (λ_=>x.c)]
 pre x:=True
 res x:=.b (λ_=>oz k x.a x.b x.c)
noncomputable def cNo (n m:Nat):Ctx:=H5 n m [] []
theorem zo (n m:Nat):CB PP (cNo n m):=JU n m trivial trivial
@[reducible] noncomputable def afG:Vc.Spec:=Hg 1
theorem apc:cR (PP ()) 190 afG:=by
 refine et (zo 0 0) (fo Tryz.func190) (λa=>⟨trivial,trivial,trivial,trivial⟩) (λa=>trivial) ?_
 rintro ⟨a,b,c⟩ hx
 refine ⟨?_⟩
 cbv
 repeat' (first
  | (refine ⟨λh=>?_,λh=>?_⟩<;>(have h:=h.out;dsimp only at h;cbv))
  | (
   refine ⟨?_⟩;first|refine .bc ?_|refine .b ?_
   show _=oz 1 a b c
   (clear hx;cases a<;>cases b<;>cases c<;>first|rfl|contradiction)))
@[reducible] noncomputable def afH:Vc.Spec:=Hg 2
theorem apd:cR (PP ()) 191 afH:=by
 refine et (zo 0 0) (fo Tryz.func191) (λa=>⟨trivial,trivial,trivial,trivial⟩) (λa=>trivial) ?_
 rintro ⟨a,b,c⟩ hx
 refine ⟨?_⟩
 cbv
 repeat' (first
  | (refine ⟨λh=>?_,λh=>?_⟩<;>(have h:=h.out;dsimp only at h;cbv))
  | (
   refine ⟨?_⟩;first|refine .bc ?_|refine .b ?_
   show _=oz 2 a b c
   (clear hx;cases a<;>cases b<;>cases c<;>first|rfl|contradiction)))
@[reducible] noncomputable def afI:Vc.Spec:=Hg 3
theorem ape:cR (PP ()) 192 afI:=by
 refine et (zo 0 0) (fo Tryz.func192) (λa=>⟨trivial,trivial,trivial,trivial⟩) (λa=>trivial) ?_
 rintro ⟨a,b,c⟩ hx
 refine ⟨?_⟩
 cbv
 repeat' (first
  | (refine ⟨λh=>?_,λh=>?_⟩<;>(have h:=h.out;dsimp only at h;cbv))
  | (
   refine ⟨?_⟩;first|refine .bc ?_|refine .b ?_
   show _=oz 3 a b c
   (clear hx;cases a<;>cases b<;>cases c<;>first|rfl|contradiction)))
@[reducible] noncomputable def afJ:Vc.Spec:=Hg 4
theorem apf:cR (PP ()) 193 afJ:=by
 refine et (zo 0 0) (fo Tryz.func193) (λa=>⟨trivial,trivial,trivial,trivial⟩) (λa=>trivial) ?_
 rintro ⟨a,b,c⟩ hx
 refine ⟨?_⟩
 cbv
 repeat' (first
  | (refine ⟨λh=>?_,λh=>?_⟩<;>(have h:=h.out;dsimp only at h;cbv))
  | (
   refine ⟨?_⟩;first|refine .bc ?_|refine .b ?_
   show _=oz 4 a b c
   (clear hx;cases a<;>cases b<;>cases c<;>first|rfl|contradiction)))
@[reducible] noncomputable def afK:Vc.Spec:=Hg 5
theorem apg:cR (PP ()) 194 afK:=by
 refine et (zo 0 0) (fo Tryz.func194) (λa=>⟨trivial,trivial,trivial,trivial⟩) (λa=>trivial) ?_
 rintro ⟨a,b,c⟩ hx
 refine ⟨?_⟩
 cbv
 repeat' (first
  | (refine ⟨λh=>?_,λh=>?_⟩<;>(have h:=h.out;dsimp only at h;cbv))
  | (
   refine ⟨?_⟩;first|refine .bc ?_|refine .b ?_
   show _=oz 5 a b c
   (clear hx;cases a<;>cases b<;>cases c<;>first|rfl|contradiction)))
@[reducible] noncomputable def afL:Vc.Spec:=Hg 6
theorem aph:cR (PP ()) 195 afL:=by
 refine et (zo 0 0) (fo Tryz.func195) (λa=>⟨trivial,trivial,trivial,trivial⟩) (λa=>trivial) ?_
 rintro ⟨a,b,c⟩ hx
 refine ⟨?_⟩
 cbv
 repeat' (first
  | (refine ⟨λh=>?_,λh=>?_⟩<;>(have h:=h.out;dsimp only at h;cbv))
  | (
   refine ⟨?_⟩;first|refine .bc ?_|refine .b ?_
   show _=oz 6 a b c
   (clear hx;cases a<;>cases b<;>cases c<;>first|rfl|contradiction)))
@[reducible] noncomputable def afM:Vc.Spec where
 α:=List Bool
 args x:=[.sl 1 fB (λ_=>x)]
 pre x:=x.length<=8
 res x:=.i .i64 (λ_=>uu x)
theorem api:cR (PP ()) 133 afM:=by
 refine et (zo 0 0) (fo Tryz.func133) (λa=>⟨(λx=>(pA x).1),trivial⟩) (λa=>trivial) ?_
 intro (l:List Bool) hx
 have hl:l.length<=8:=hx
 have hz:(0:Int)=pN l 0:=rfl
 refine ⟨?_⟩
 cbv
 refine Sat.dq (zo 0 0) 0 3 [] (λi:Nat=>[(3,.i .i64 (λ_=>pN l i)),(6,.sl 1 fB (λ_=>l)),(7,.i .i64 (λ_=>(l.length:Int))),(8,.i .i64 λ_=>(i:Int))]) (λ_=>[]) (λi=>i<=l.length) (λi=>l.length - i) 0 (by have iY:=hz;exact bh) (by exact aM) (cg _) ?_
 intro i hi
 have hi:i<=l.length:=hi
 have h0:=n0 i
 have h1:=dC (i:=i) (by omega)
 cbv
 refine ⟨λh=>?_,λh=>?_⟩
 ·have bM:i < l.length:=aH
  have bZ:l.length - (i+1) < l.length - i:=by omega
  refine (bO bM).elim λb hb=>?_
  have hg:l.getD i false=b:=by rw [List.getD_eq_getElem?_getD,hb];rfl
  have hy:b=true->fN .or .i64 (pN l i) (IntKind.i64.wrap (1*2^(min ((i:Int)).toNat IntKind.i64.bits)))=pN l (i+1):=λe=>by
   show _=if l.getD i false then _ else _
   rw [hg,e];rfl
  have hn:b=false->pN l i=pN l (i+1):=λe=>by
   show _=if l.getD i false then _ else _
   rw [hg,e];rfl
  clear h
  cbv
  refine ⟨b,⟨h0,hb⟩,?_⟩
  cbv
  refine ⟨λh=>?_,λh=>?_⟩
  ·have e:=hy h.out
   clear h
   cbv
   refine ⟨⟨h0⟩,?_⟩
   cbv
   exact ⟨i+1,by have bH:=e;have jv:=h1;exact bh,by exact aM,⟨bM,bZ⟩⟩
  ·have e:=hn h.out
   clear h
   cbv
   exact ⟨i+1,by have bH:=e;have jv:=h1;exact bh,by exact aM,⟨bM,bZ⟩⟩
 ·have bM:¬i < l.length:=aH
  have e:pN l i=uu l:=by unfold uu;rw [show i=l.length by omega]
  clear h
  cbv
  exact ⟨by have bH:=e;exact bX⟩
structure auv where
 v:Int
 k:Int
@[reducible] noncomputable def afN:Vc.Spec where
 α:=auv
 args x:=[.i .i64 (λ_=>x.v),.i .i64 (λ_=>x.k)]
 pre x:=0<=x.k
 res x:=.b (λ_=>zz x.v x.k)
theorem apj:cR (PP ()) 145 afN:=by
 refine et (zo 0 0) (fo Tryz.func145) (λa=>⟨trivial,trivial,trivial⟩) (λa=>trivial) ?_
 rintro ⟨v,k⟩ hx
 have hx:0<=k:=hx
 have e:eW (fN .and .i64 (v.fdiv (2^(min k.toNat IntKind.i64.bits))) 1) 1=zz v k:=rfl
 refine ⟨?_⟩
 cbv
 refine ⟨⟨hx⟩,?_⟩
 cbv
 exact ⟨by have kQ:=e;exact bX⟩
def H6 (ms:List (List Int)) (n a:Int):Bool:=match ms[(n / 8).toNat]? with
 | some m=>match m[a.toNat]? with
  | some v=>zz v (n % 8)
  | none=>false
 | none=>false
structure aq4 where
 ms:List (List Int)
 n:Int
 a:Int
@[reducible] noncomputable def Vo:Vc.Spec where
 α:=aq4
 args x:=[.sl 1 e8 (λ_=>x.ms),.i .i64 (λ_=>x.n),.i .i64 (λ_=>x.a)]
 pre x:=(0<=x.n/\x.n < 64)/\0<=x.a
 res x:=.b (λ_=>H6 x.ms x.n x.a)
noncomputable def auw (n m:Nat):Ctx:=H5 n m [] [(145,afN)]
theorem apk (n m:Nat):CB PP (auw n m):=JU n m trivial ⟨apj,trivial⟩
theorem apl:cR (PP ()) 132 Vo:=by
 refine et (apk 0 0) (fo Tryz.func132) (λa=>⟨(λx=>(nJ x).1),trivial,trivial,trivial⟩) (λa=>trivial) ?_
 rintro ⟨ms,n,a⟩ hx
 obtain ⟨hn,ha⟩:(0<=n/\n < 64)/\0<=a:=hx
 refine (⟨_,rfl⟩:∃r,H6 ms n a=r).elim λr hr=>?_
 have hrS:Vo.res ⟨ms,n,a⟩=.b (λ_=>r):=by rw [<-hr]
 have ES:n.tdiv 8=n / 8:=by rw [MD hn.1]
 have hq:IntKind.i64.wrap (n.tdiv 8)=n / 8:=by rw [ES,dt (by omega) (by omega)]
 have hm:n.tmod 8=n % 8:=YQ hn.1
 have hA:¬IntKind.i64.wrap (n.tdiv 8) < (ms.length:Int)->false=r:=λh=>by
  rw [hq] at h
  rw [<-hr];unfold H6
  rw [nF (by omega)]
 have hM:IntKind.i64.wrap (n.tdiv 8) < (ms.length:Int)->∃m,(0<=IntKind.i64.wrap (n.tdiv 8)/\ms[(IntKind.i64.wrap (n.tdiv 8)).toNat]?=some m)/\ms[(n / 8).toNat]?=some m:=λh=>by
  rw [hq] at h ⊢
  obtain ⟨m,hm⟩:=bO (l:=ms) (i:=(n / 8).toNat) (by omega)
  exact ⟨m,⟨by omega,hm⟩,hm⟩
 have hB:∀m,ms[(n / 8).toNat]?=some m->¬a < (m.length:Int)->false=r:=λm h1 h=>by
  rw [<-hr];unfold H6
  rw [h1];simp only
  rw [nF (by omega)]
 have hC:∀m,ms[(n / 8).toNat]?=some m->a < (m.length:Int)->∃v,(0<=a/\m[a.toNat]?=some v)/\zz v (n.tmod 8)=r:=λm h1 h=>by
  obtain ⟨v,hv⟩:=bO (l:=m) (i:=a.toNat) (by omega)
  refine ⟨v,⟨ha,hv⟩,?_⟩
  rw [<-hr];unfold H6
  rw [h1];simp only
  rw [hv,hm]
 have HV:0<=n.tmod 8:=by rw [hm];omega
 rw [hrS]
 clear hrS
 refine ⟨?_⟩
 cbv
 refine ⟨⟨by decide⟩,?_⟩
 cbv
 refine ⟨λh=>?_,λh=>?_⟩
 ·refine (hM (OT h.out)).elim λm uy=>?_
  have e7:=uy.1
  have hB:=hB m uy.2
  have hC:=hC m uy.2
  clear h
  cbv
  refine ⟨⟨by decide⟩,?_⟩
  cbv
  refine ⟨m,⟨e7⟩,?_⟩
  cbv
  refine ⟨λh=>?_,λh=>?_⟩
  ·refine (hC (OT h.out)).elim λv hv=>?_
   have nB:=hv.1
   have nv:=hv.2
   clear h
   cbv
   refine ⟨⟨by decide⟩,?_⟩
   cbv
   refine ⟨m,⟨e7⟩,?_⟩
   cbv
   refine ⟨v,⟨nB⟩,?_⟩
   cbv
   refine ⟨⟨by decide⟩,?_⟩
   cbv
   refine ⟨⟨v,n.tmod 8⟩,⟨by exact bp,HV⟩,?_⟩
   cbv
   exact ⟨by have kQ:=nv;exact bX⟩
  ·have e:=hB (C0.2 (Ka h.out))
   clear h
   cbv
   exact ⟨by have eK:=e;exact bX⟩
 ·have e:=hA (C0.2 (Ka h.out))
  clear h
  cbv
  exact ⟨by have eK:=e;exact bX⟩
def Ku:List Int:=[1,2,3,4,5,6]
@[reducible] noncomputable def Vp:Vc.Spec where
 α:=Gate
 args g:=[.sl 2 Hf (λ_=>Ku),.fn (.func 135) [] [.dU (kC g) 0]]
 pre g:=1<=g.op/\g.op<=6
 res g:=.i .i64 (λ_=>g.op - 1)
noncomputable def auy (n m:Nat):Ctx:=H5 n m [(135,Tryz.f135)] []
theorem ac3 (n m:Nat):CB PP (auy n m):=JU n m ⟨fo Tryz.func135,trivial⟩ trivial
theorem apm:cR (PP ()) 134 Vp:=by
 refine et (ac3 0 0) (fo Tryz.func134) (λa=>⟨(λx=>(abS x).1),⟨trivial,(tZ a).1,trivial⟩,trivial⟩) (λa=>trivial) ?_
 rintro ⟨op,a,b,c,n⟩ hx
 have hx:1<=op/\op<=6:=hx
 have hl:Ku.length=6:=rfl
 have nm:∀i:Nat,i < 6->Ku[i]?=some ((i:Int)+1):=by decide
 obtain ⟨L,hL⟩:∃L,Ku=L:=⟨_,rfl⟩
 have hLS:Vp.args ⟨op,a,b,c,n⟩=[.sl 2 Hf (λ_=>L),.fn (.func 135) [] [.dU (kC ⟨op,a,b,c,n⟩) 0]]:=by rw [<-hL]
 rw [hL] at hl nm
 rw [hLS]
 clear hLS
 refine ⟨?_⟩
 cbv
 refine Sat.dq (ac3 0 0) 0 4 [] (λi:Nat=>[(7,.i .i64 (λ_=>(L.length:Int))),(8,.i .i64 (λ_=>(i:Int)))]) (λi=>[]) (λi=>i<=6/\(i:Int) < op) (λi=>6 - i) 0 (by exact aM) (by exact aM) ⟨by omega,by show (0:Int) < op;omega⟩ ?_
 rintro i ⟨hi,Hw⟩
 have Hw:(i:Int) < op:=Hw
 have h0:=n0 i
 have h1:=dC (i:=i) (by omega)
 cbv
 refine ⟨λh=>?_,λh=>?_⟩
 ·have bM:i < L.length:=aH
  have bM:i < 6:=by omega
  have bZ:6 - (i+1) < 6 - i:=by omega
  have rY:=nm i bM
  refine (⟨_,rfl⟩:∃q:Int,(i:Int)+1=q).elim λq hq=>?_
  have iK:L[i]?=some q:=by rw [<-hq];exact rY
  have Ki:q=op->(i:Int)=op - 1:=λe=>by rw [<-e,<-hq];omega
  have dg:¬q=op->(i+1<=6/\((i+1:Nat):Int) < op)/\6 - (i+1) < 6 - i:=λe=>⟨⟨bM,by rw [<-hq] at e;exact cx⟩,bZ⟩
  clear h
  cbv
  refine ⟨q,⟨h0,iK⟩,?_⟩
  cbv
  refine ⟨λh=>?_,λh=>?_⟩
  ·have e:q=op:=aH
   have e2:=Ki e
   clear h
   cbv
   exact ⟨by have bH:=e2;exact bX⟩
  ·have e:¬q=op:=aH
   have e2:=dg e
   clear h
   cbv
   exact ⟨i+1,by have bH:=h1;exact bh,by exact aM,⟨e2⟩⟩
 ·have bM:¬i < L.length:=aH
  cases (show False by exact cx)
structure aq5 where
 n:Net
 inn:List Bool
 ms:List (List Int)
@[reducible] noncomputable def auz:jT where
 α:=aq5
 args x:=[.agg (jr x.n),.sl 1 fB (λ_=>x.inn),.sl 1 e8 (λ_=>x.ms)]
 pre x:=ca x.n.ins.length x.n.aT/\x.inn.length=x.n.ins.length
 β:=List Bool
 post x y:=y=kH x.ms x.inn x.n.aT
 res x y:=.sl 1 fB (λ_=>y)
noncomputable def aq6 (n m:Nat):Ctx:=H5 n m [(131,Tryz.f131)] [] [] [] [] [41]
theorem anw (n m:Nat):CB PP (aq6 n m):=JU n m ⟨fo Tryz.func131,trivial⟩ trivial
noncomputable def auA (n m:Nat):Ctx:=H5 n m [] [(133,afM),(132,Vo),(190,afG),(191,afH),(192,afI),(193,afJ),(194,afK),(195,afL),(134,Vp)]
theorem apn (n m:Nat):CB PP (auA n m):=JU n m trivial ⟨api,apl,apc,apd,ape,apf,apg,aph,apm,trivial⟩
theorem akY {ms:List (List Int)} {inn:List Bool} {gs:List Gate} {i:Nat} {g:Gate} (hg:gs[i]?=some g):kH ms inn (gs.take (i+1))=kH ms inn (gs.take i)++[wW ms (kH ms inn (gs.take i)) g]:=by
 unfold kH
 rw [jR,hg,oQ,List.foldl_append,kW,FN]
structure auB (ms:List (List Int)) (v:List Bool) (op n:Int) (ba bb bc:Bool) (r:Bool):Prop where
 rd:op=7->H6 ms n (uu [ba,bb,bc])=r
 gt:∀k:Int,op=k->op≠7->oz k ba bb bc=r
theorem auC {ms:List (List Int)} {v:List Bool} {op a b c n:Int} {ba bb bc:Bool} (ha:v[a.toNat]?=some ba) (hb:v[b.toNat]?=some bb) (hc:v[c.toNat]?=some bc):auB ms v op n ba bb bc (wW ms v ⟨op,a,b,c,n⟩):=by
 have e1:eE v a=ba:=by unfold eE;rw [List.getD_eq_getElem?_getD,ha];rfl
 have e2:eE v b=bb:=by unfold eE;rw [List.getD_eq_getElem?_getD,hb];rfl
 have e3:eE v c=bc:=by unfold eE;rw [List.getD_eq_getElem?_getD,hc];rfl
 unfold wW
 simp only [e1,e2,e3]
 exact ⟨λh=>by rw [if_pos h];rfl,λk h h7=>by rw [if_neg h7,h]⟩
theorem anx (l:List Bool) (h:l.length<=4):0<=uu l:=by
 obtain ⟨k,_,e,_⟩:=abU l h
 rw [e];exact IS k
theorem apo:k7 PP 58 auz:=by
 refine qS (anw 0 0) (fo Tryz.func58) (λa=>⟨mu a.n,(λx=>(pA x).1),(λx=>(nJ x).1),trivial⟩) (λa y=>(λx=>(pA x).1)) ?_
 rintro ⟨⟨ins,gs,outs,dr⟩,inn,ms⟩ hx
 obtain ⟨hn,bM⟩:ca ins.length gs/\inn.length=ins.length:=hx
 have vB:2+ins.length+gs.length<=600:=hn.k8
 have q1:([false,true].length+inn.length)*1<=140737488355328:=by show (2+inn.length)*1<=_;omega
 have q2:[false,true].length+inn.length<=9223372036854775807:=by show 2+inn.length<=_;omega
 have hz:[false,true]++inn=kH ms inn (gs.take 0):=rfl
 refine ⟨?_⟩
 cbv
 refine ⟨[false,true],⟨by exact cj,rfl⟩,?_⟩
 cbv
 refine ⟨inn,⟨by exact bp,q1,q2⟩,?_⟩
 cbv
 refine Sat.freeze 4 rfl rfl ?_
 cbv
 refine Sat.dq (apn 0 0) 5 10 [(.t 7,2)] (λx:Nat × List Bool=>[(7,.own 2),(20,.sl 5 kC (λ_=>gs)),(21,.i .i64 (λ_=>(gs.length:Int))),(22,.i .i64 λ_=>(x.1:Int))]) (λx=>[(2,.dyn 4 1 fB (λ_=>x.2))])
  (λx=>x.1<=gs.length/\x.2=kH ms inn (gs.take x.1)) (λx=>gs.length - x.1) (0,[false,true]++inn) (by exact aM) (by exact aM) ⟨cg _,hz⟩ ?_
 rintro ⟨i,v⟩ ⟨hi,hv⟩
 have hi:i<=gs.length:=hi
 have hv:v=kH ms inn (gs.take i):=hv
 have il:v.length=2+ins.length+i:=by rw [hv,aaV,iw,bM];omega
 have h0:=n0 i
 have h1:=dC (i:=i) (by omega)
 have b1:(v.length+1)*1<=140737488355328:=by omega
 have b2:v.length+1<=9223372036854775807:=by omega
 cbv
 refine ⟨λh=>?_,λh=>?_⟩
 ·have aP:i < gs.length:=aH
  have bZ:gs.length - (i+1) < gs.length - i:=by omega
  refine (bO aP).elim λg=>?_
  refine g.casesOn λop a b c n hg=>?_
  have G:=hn.aT i _ hg
  have fC:1<=op/\op<=7:=G.op
  have BP:0<=n/\n < 64:=G.n
  have Lu:0<=a/\a.toNat < v.length:=by have:=G.a;simp only at this;exact cx
  have Lv:0<=b/\b.toNat < v.length:=by have:=G.b;simp only at this;exact cx
  have qD:0<=c/\c.toNat < v.length:=by have:=G.c;simp only at this;exact cx
  refine (bO Lu.2).elim λba Lw=>?_
  refine (bO Lv.2).elim λbb tq=>?_
  refine (bO qD.2).elim λbc Cq=>?_
  have hF:=auC (ms:=ms) (op:=op) (n:=n) Lw tq Cq
  have cH:=akY (ms:=ms) (inn:=inn) hg
  rw [<-hv] at cH
  refine (⟨_,rfl⟩:∃r,wW ms v ⟨op,a,b,c,n⟩=r).elim λr hr=>?_
  rw [hr] at hF cH
  have bS:(i+1<=gs.length/\v++[r]=kH ms inn (gs.take (i+1)))/\gs.length - (i+1) < gs.length - i:=⟨⟨aP,cH.symm⟩,bZ⟩
  have h3:[ba,bb,bc].length<=8:=by show 3<=8;decide
  have hK0:=anx [ba,bb,bc] (by show 3<=4;decide)
  refine (⟨_,rfl⟩:∃K,uu [ba,bb,bc]=K).elim λK hK=>?_
  rw [hK] at hK0
  have oi:=hF.rd
  have th:=hF.gt
  rw [hK] at oi
  clear h
  cbv
  refine ⟨⟨op,a,b,c,n⟩,⟨h0,hg⟩,?_⟩
  cbv
  refine ⟨⟨Lu⟩,?_⟩
  cbv
  refine ⟨ba,⟨Lw,rfl⟩,?_⟩
  cbv
  refine ⟨⟨Lv⟩,?_⟩
  cbv
  refine ⟨bb,⟨tq,rfl⟩,?_⟩
  cbv
  refine ⟨⟨qD⟩,?_⟩
  cbv
  refine ⟨bc,⟨Cq,rfl⟩,?_⟩
  cbv
  refine ⟨λh=>?_,λh=>?_⟩
  ·have h7:op=7:=aH
   have hr7:=oi h7
   clear h
   cbv
   refine ⟨[ba,bb,bc],⟨.inl ⟨.cons (.eF rfl (λy _=>rfl) (λx=>(pA x).1) (.cons (.b rfl) (.cons (.b rfl) (.cons (.b rfl) .nil)))) .nil,rfl⟩,h3⟩,?_⟩
   cbv
   refine ⟨⟨ms,n,K⟩,⟨by have bH:=hK;exact bX,BP,hK0⟩,?_⟩
   cbv
   refine ⟨[r],⟨by have kQ:=hr7;exact qF,b1,b2⟩,?_⟩
   cbv
   exact ⟨(i+1,v++[r]),by have bH:=h1;exact bh,by exact aM,⟨bS⟩⟩
  ·have h7:¬op=7:=aH
   have auD:1<=op/\op<=6:=by omega
   have aq7:op=1\/op=2\/op=3\/op=4\/op=5\/op=6:=by omega
   clear h
   cbv
   refine ⟨Ku,⟨rfl,.cons (.ic rfl) (.cons (.cell rfl) (.cons (.ic rfl) (.cons (.cell rfl) (.cons (.ic rfl) (.cons (.cell rfl) (.cons (.ic rfl) (.cons (.cell rfl) (.cons (.ic rfl) (.cons (.cell rfl) (.cons (.ic rfl) (.cons (.cell rfl) (.nil)))))))))))),by decide⟩,?_⟩
   cbv
   refine ⟨⟨op,a,b,c,n⟩,⟨.inl ⟨by exact bp,rfl⟩,auD⟩,?_⟩
   cbv
   rcases aq7 with e|e|e|e|e|e
   ·have xm:=th 1 e h7
    have hk:op - 1=((0:Nat):Int):=by omega
    refine ⟨0,⟨hk,by decide⟩,?_⟩
    cbv
    refine ⟨⟨ba,bb,bc⟩,⟨by exact bp,trivial⟩,?_⟩
    cbv
    refine ⟨[r],⟨by have kQ:=xm;exact qF,b1,b2⟩,?_⟩
    cbv
    exact ⟨(i+1,v++[r]),by have bH:=h1;exact bh,by exact aM,⟨bS⟩⟩
   ·have xm:=th 2 e h7
    have hk:op - 1=((1:Nat):Int):=by omega
    refine ⟨1,⟨hk,by decide⟩,?_⟩
    cbv
    refine ⟨⟨ba,bb,bc⟩,⟨by exact bp,trivial⟩,?_⟩
    cbv
    refine ⟨[r],⟨by have kQ:=xm;exact qF,b1,b2⟩,?_⟩
    cbv
    exact ⟨(i+1,v++[r]),by have bH:=h1;exact bh,by exact aM,⟨bS⟩⟩
   ·have xm:=th 3 e h7
    have hk:op - 1=((2:Nat):Int):=by omega
    refine ⟨2,⟨hk,by decide⟩,?_⟩
    cbv
    refine ⟨⟨ba,bb,bc⟩,⟨by exact bp,trivial⟩,?_⟩
    cbv
    refine ⟨[r],⟨by have kQ:=xm;exact qF,b1,b2⟩,?_⟩
    cbv
    exact ⟨(i+1,v++[r]),by have bH:=h1;exact bh,by exact aM,⟨bS⟩⟩
   ·have xm:=th 4 e h7
    have hk:op - 1=((3:Nat):Int):=by omega
    refine ⟨3,⟨hk,by decide⟩,?_⟩
    cbv
    refine ⟨⟨ba,bb,bc⟩,⟨by exact bp,trivial⟩,?_⟩
    cbv
    refine ⟨[r],⟨by have kQ:=xm;exact qF,b1,b2⟩,?_⟩
    cbv
    exact ⟨(i+1,v++[r]),by have bH:=h1;exact bh,by exact aM,⟨bS⟩⟩
   ·have xm:=th 5 e h7
    have hk:op - 1=((4:Nat):Int):=by omega
    refine ⟨4,⟨hk,by decide⟩,?_⟩
    cbv
    refine ⟨⟨ba,bb,bc⟩,⟨by exact bp,trivial⟩,?_⟩
    cbv
    refine ⟨[r],⟨by have kQ:=xm;exact qF,b1,b2⟩,?_⟩
    cbv
    exact ⟨(i+1,v++[r]),by have bH:=h1;exact bh,by exact aM,⟨bS⟩⟩
   ·have xm:=th 6 e h7
    have hk:op - 1=((5:Nat):Int):=by omega
    refine ⟨5,⟨hk,by decide⟩,?_⟩
    cbv
    refine ⟨⟨ba,bb,bc⟩,⟨by exact bp,trivial⟩,?_⟩
    cbv
    refine ⟨[r],⟨by have kQ:=xm;exact qF,b1,b2⟩,?_⟩
    cbv
    exact ⟨(i+1,v++[r]),by have bH:=h1;exact bh,by exact aM,⟨bS⟩⟩
 ·have aP:¬i < gs.length:=aH
  have cb:v=kH ms inn gs:=by rw [hv,iQ (by omega)]
  clear h
  cbv
  exact .mk' v ⟨by exact cj⟩ cb
end Go.Proofs.Pk
