import Derived.Test.YthnhbemmlfaihaaR13
import Derived.Test.YthnhbemmlfaihaaR25
import Derived.Test.YthnhbemmlfaihaaR26
import Derived.Test.YthnhbemmlfaihaaR29
import Derived.Test.YthnhbemmlfaihaaR30
set_option linter.unusedVariables false
set_option linter.unusedSimpArgs false
set_option maxRecDepth 10000
set_option maxHeartbeats 64000000
namespace Go.Proofs.Pk
open Go Go.Vc
structure akC where
 l:List Int
 D:List Int
@[reducible] noncomputable def Yv:Vc.Spec where
 α:=akC
 args x:=[.sl 1 bK (λ_=>x.l),.dg [.sl 1 bK (λ_=>x.D)] 0]
 pre x:=kN x.D x.l
 res x:=.i .i64 (λ_=>cd x.D x.l)
noncomputable def akD (n m:Nat):Ctx:=cT n m [] []
theorem Wp (n m:Nat):CB PP (akD n m):=cW n m trivial trivial
theorem agU:dw (PP ()) 26 Yv:=by
 refine fH (Wp 0 0) (fo Try.func26) (λa=>⟨λx=>(dv x).1,⟨λx=>(dv x).1,trivial⟩,trivial⟩) (λa=>trivial) ?_
 rintro ⟨l,L⟩ hx
 have hx:kN L l:=hx
 have kC:=hx.len
 have P0:cd L (l.take 0)=0:=rfl
 refine ⟨?_⟩
 cbv
 refine Sat.eI (Wp 0 0) 0 4 [] (λi:Nat=>[(4,.i .i64 (λ_=>cd L (l.take i))),(7,.sl 1 bK (λ_=>l)),(8,.i .i64 (λ_=>(l.length:Int))),(9,.i .i64 λ_=>(i:Int))]) (λ_=>[]) (λi=>i<=l.length) (λi=>l.length - i) 0 (by have gP:=P0.symm;exact bp) (by exact aX) (cP _) ?_
 intro i hi
 have hi:i<=l.length:=hi
 have h0:=n0 i
 have h1:=eU (i:=i) (by omega)
 cbv
 refine ⟨λh=>?_,λh=>?_⟩
 ·have bU:i < l.length:=aJ
  have cD:l.length - (i+1) < l.length - i:=by omega
  refine (cy bU).elim λv hv=>?_
  have hb:=hx.mem v (cN hv)
  refine (cy (l:=L) (i:=v.toNat) (by omega)).elim λx lT=>?_
  have db:=R5 hv lT
  have kD:=hb.1
  clear h
  cbv
  refine ⟨v,⟨h0,hv⟩,?_⟩
  cbv
  refine ⟨x,⟨kD,lT⟩,?_⟩
  cbv
  exact ⟨i+1,by have bI:=db;have iK:=h1;exact bp,by exact aX,⟨⟨bU,cD⟩⟩⟩
 ·have cf:l.length<=i:=aJ
  have hr:cd L (l.take i)=cd L l:=by rw [jt cf]
  cbv
  exact ⟨by have bI:=hr;exact bN⟩
structure akE where
 m:dM
 d:Int
structure JL (m:dM) (d:Int):Prop where
 v:Ay m
 cin:∀x∈m.cells,x.ins.length<=1000000
 dr:m.bf.length<=1000000
 eq:wb m=d
@[reducible] noncomputable def Yw:Vc.Spec where
 α:=akE
 args x:=[.agg (yB x.m)]
 pre x:=JL x.m x.d
 res x:=.i .i64 (λ_=>x.d)
noncomputable def akF (n m:Nat):Ctx:=cT n m [] [(26,Yv)]
theorem Wq (n m:Nat):CB PP (akF n m):=cW n m trivial ⟨agU,trivial⟩
theorem agV:dw (PP ()) 14 Yw:=by
 refine fH (Wq 0 0) (fo Try.func14) (λa=>⟨zL a.m,trivial⟩) (λa=>trivial) ?_
 rintro ⟨⟨mn,mc,md⟩,d⟩ hx
 have hx:JL ⟨mn,mc,md⟩ d:=hx
 have Pl:mc.length<=600:=by have:=hx.v.n6;have:=hx.v.n0;simp only at *;omega
 refine (ajU hx.v hx.cin hx.dr).elim λD hF=>?_
 refine hF.elim λW hF=>?_
 have yS:=hF.w0
 have hW:2+mn=W:=hF.w
 have sK:IntKind.i64.wrap (2+mn)=W:=by rw [hW];exact eP (by omega) (by omega)
 have wZ:IntKind.i64.wrap (IntKind.i64.wrap (2+mn)+(mc.length:Int))=W+mc.length:=by rw [sK];exact eP (by omega) (by omega)
 have qt:0<=IntKind.i64.wrap (2+mn)/\IntKind.i64.wrap (2+mn)<=IntKind.i64.wrap (IntKind.i64.wrap (2+mn)+(mc.length:Int))/\((8:Nat):Int)*IntKind.i64.wrap (IntKind.i64.wrap (2+mn)+(mc.length:Int))<=281474976710656/\IntKind.i64.wrap (IntKind.i64.wrap (2+mn)+(mc.length:Int))<=9223372036854775807:=by rw [wZ,sK];omega
 have hz:List.replicate (IntKind.i64.wrap (2+mn)).toNat 0=D 0:=by rw [sK];exact hF.z
 have fR:∀(i:Nat) (x:Cell),mc[i]?=some x->D i++[1+cd (D i) x.ins]=D (i+1)/\kN (D i) x.ins/\IntKind.i64.wrap (1+cd (D i) x.ins)=1+cd (D i) x.ins:=hF.grow
 have jM:∀i,i<=mc.length->(D i).length<=600:=hF.len
 have mQ:∀i,i<=mc.length->mc.length<=i->kN (D i) md/\cd (D i) md=d:=λi h1 h2=>by
  have:=hF.fin i h1 h2
  exact ⟨this.1,this.2.trans hx.eq⟩
 clear hF hx
 refine ⟨?_⟩
 cbv
 refine ⟨⟨qt⟩,?_⟩
 refine Sat.eI (Wq 0 0) 3 5 [(.c 2 0,1)] (λi:Nat=>[(20,.sl 3 lK (λ_=>mc)),(21,.i .i64 (λ_=>(mc.length:Int))),(22,.i .i64 (λ_=>(i:Int)))]) (λi=>[(1,.dyn 3 1 bK (λ_=>D i)),(2,.fix 32 [.own 1])]) (λi=>i<=mc.length) (λi=>mc.length - i) 0 (by exact aX) (by have eu:=hz;exact bp) (cP _) ?_
 intro i hi
 have hi:i<=mc.length:=hi
 have dY:=n0 i
 have gH:=eU (i:=i) (by omega)
 have kC:=jM i hi
 have b1:((D i).length+1)*8<=140737488355328:=by omega
 have b2:(D i).length+1<=9223372036854775807:=by omega
 have mQ:=mQ i hi
 cbv
 refine ⟨λh=>?_,λh=>?_⟩
 ·have bU:i < mc.length:=aJ
  have cD:mc.length - (i+1) < mc.length - i:=by omega
  refine (cy bU).elim λx=>?_
  refine x.casesOn λxi xt xr hx=>?_
  refine (⟨_,rfl⟩:∃g,cd (D i) xi=g).elim λg hg=>?_
  have h3:D i++[1+cd (D i) xi]=D (i+1)/\kN (D i) xi/\IntKind.i64.wrap (1+cd (D i) xi)=1+cd (D i) xi:=fR i _ hx
  have h4:=h3.2.1
  have h5:=h3.2.2
  have h6:=h3.1
  refine (⟨_,rfl⟩:∃q,1+cd (D i) xi=q).elim λq hq=>?_
  rw [hq] at h6
  have h5:=h5.trans hq
  clear h h3
  cbv
  refine ⟨⟨xi,xt,xr⟩,⟨dY,hx⟩,?_⟩
  cbv
  refine ⟨⟨xi,D i⟩,⟨.inl ⟨by exact aY,rfl⟩,h4⟩,?_⟩
  cbv
  refine ⟨[q],⟨by have bI:=h5;exact bN,b1,b2⟩,?_⟩
  cbv
  exact ⟨i+1,by have bI:=gH;exact bp,by have eu:=h6;exact bp,⟨⟨bU,cD⟩⟩⟩
 ·have cf:mc.length<=i:=aJ
  have h1:=(mQ cf).1
  have h2:=(mQ cf).2
  clear h
  cbv
  refine ⟨⟨md,D i⟩,⟨.inl ⟨by exact aY,rfl⟩,h1⟩,?_⟩
  cbv
  exact ⟨by have bI:=h2;exact bN⟩
theorem acw {l m:List (List Int)} (hn:l.Nodup) (hs:∀x∈l,x∈m):l.length<=m.length:=by
 induction l generalizing m with
 | nil=>simp
 | cons a r ih =>
  have lU:=zj.1 hn
  have ha:=hs a (by simp)
  have h1:=ih (m:=m.erase a) lU.2 λx hx=>by
   have bL:x≠a:=by rintro rfl;exact lU.1 hx
   exact (List.mem_erase_of_ne bL).2 (hs x (by simp [hx]))
  rw [List.length_erase_of_mem ha] at h1
  have h2:0 < m.length:=List.length_pos_of_mem ha
  simp only [oN]
  omega
structure Seen (l:List ec) (s:List (List Int)):Prop where
 sub:∀k∈s,k∈l.map Az
 nd:s.Nodup
theorem Seen.more {l:List ec} {s:List (List Int)} (h:Seen l s) {x:ec} (hx:x∈l) (hn:Az x∉s):Seen l (s++[Az x])/\l.length - (s++[Az x]).length < l.length - s.length:=by
 have h1:Seen l (s++[Az x]):=⟨λk hk=>by
  rcases eE.1 hk with hk|hk
  ·exact h.sub k hk
  ·rw [qR.1 hk];exact D8 hx,HE.2 ⟨h.nd,by simp,λa ha b hb e=>by simp at hb;subst hb;subst e;exact hn ha⟩⟩
 have h2:=acw h1.nd h1.sub
 rw [fS,kF,zt] at h2
 exact ⟨h1,by rw [fS,zt];omega⟩
structure akG where
 n:Net
 m:dM
theorem CP.all {p:ej} {st sig out:List Int} (h:CP p st sig out) (ha:∀c,c < p.blocks.length->St st 2 c):out=N6 p:=by
 refine nh λb=>?_
 unfold N6
 rw [k7]
 by_cases hb:b < p.blocks.length
 ·have hx:p.blocks[b]?=some p.blocks[b]:=dE hb
  rw [LQ hb]
  simp only [zk]
  unfold Yp
  rw [hx]
  simp only
  split
  ·rename_i hr;exact (h.cK b _ hx hr).2.2
  ·rename_i hr;exact (h.done b _ hx (by omega) (ha b hb)).2
 ·rw [l7 (by rw [h.ol];omega),l7 (by simpa using hb)];rfl
structure Qy (p:ej) (i:Nat) (sig:List Int):Prop where
 le:i<=p.ins.length
 sl:sig.length=p.ins.length+2*p.blocks.length
 CQ:∀s:Nat,s < i->sig[s]?=some (Fc p s)
theorem Qy.add {p:ej} {i:Nat} {sig:List Int} (h:Qy p i sig) {w:ec} (hw:p.ins[i]?=some w):Qy p (i+1) (sig.set i (oR [2,w.kind,w.i,w.bit])):=by
 have aP:=(bh.1 hw).1
 refine ⟨aP,by simp [h.sl],λs hs=>?_⟩
 by_cases e:s=i
 ·subst e
  have fV:=h.sl
  rw [iN]
  simp only [if_true]
  rw [if_pos (by omega)]
  unfold Fc
  rw [jC,List.getD_eq_getElem?_getD,hw]
  rfl
 ·rw [fU (λh=>e h.symm)];exact h.CQ s (by omega)
structure Dt (p:ej) (i:Nat) (sig out:List Int):Prop where
 le:i<=p.blocks.length
 sl:sig.length=p.ins.length+2*p.blocks.length
 ol:out.length=p.blocks.length
 CQ:∀s:Nat,s < p.ins.length->sig[s]?=some (Fc p s)
 cK:∀(b:Nat) (x:Block),b < i->p.blocks[b]?=some x->0<=x.cK->sig[p.ins.length+2*b]?=some (oR [3,x.cK])/\sig[p.ins.length+2*b+1]?=some (oR [1,x.cK])/\out[b]?=some (oR [1,x.cK])
theorem Dt.skip {p:ej} {i:Nat} {sig out:List Int} (h:Dt p i sig out) {x:Block} (hx:p.blocks[i]?=some x) (hr:x.cK < 0):Dt p (i+1) sig out :=
 ⟨(
  bh.1 hx).1,h.sl,h.ol,h.CQ,λb y hb hy h0=>by
  by_cases e:b=i
  ·subst e;rw [hx] at hy;cases hy;omega
  ·exact h.cK b y (by omega) hy h0⟩
theorem Dt.add {p:ej} {i:Nat} {sig out:List Int} (h:Dt p i sig out) {x:Block} (hx:p.blocks[i]?=some x) (hr:0<=x.cK):Dt p (i+1) ((sig.set (p.ins.length+2*i) (oR [3,x.cK])).set (p.ins.length+2*i+1) (oR [1,x.cK])) (out.set i (oR [1,x.cK])):=by
 have aP:=(bh.1 hx).1
 have fV:=h.sl
 have e7:=h.ol
 refine ⟨aP,by simp [fV],by simp [e7],λs hs=>?_,λb y hb hy h0=>?_⟩
 ·rw [fU (by omega),fU (by omega)];exact h.CQ s hs
 ·by_cases e:b=i
  ·subst e;rw [hx] at hy;cases hy
   refine ⟨?_,?_,?_⟩
   ·rw [fU (by omega),iN];simp;omega
   ·rw [iN];simp;omega
   ·rw [iN];simp;omega
  ·rw [fU (by omega),fU (by omega),fU (by omega),fU (by omega),fU (by omega)]
   exact h.cK b y (by omega) hy h0
open Classical in
noncomputable def arI (y:akG):ej × Int:=if (y.n.ins.length:Int)=y.m.n/\y.n.outs.length=y.m.bf.length then (aii y.n y.m,0) else (⟨[],[],[],[]⟩,270)
theorem adq {P:Unit->Program} {f:FuncId} {S:oV} {T:Vc.Spec} {fn:Func} (I:rq P f S) (F:kJ (P ()) f fn) (c:T.α->S.α) (ha:∀a,T.args a=S.args (c a)) (hp:∀a,T.pre a->S.pre (c a)) (hr:∀a y,T.pre a->S.post (c a) y->S.res (c a) y=T.res a) (PT:∀a,LF (T.res a)) (oG:T.fr=false):dw (P ()) f T where
 fn:=⟨fn,F⟩
 lf:=λa=>by rw [ha];exact I.lf _
 lr:=PT
 fresh:=λh=>by rw [oG] at h;cases h
 run:=λa dU H F' w vals hH hF jd=>by
  rw [ha] at jd
  refine (I.run (c a) (hp a dU) H F' w vals hH hF jd).mono ?_
  rintro e w' ⟨y,v,H',h1,h2,h3,h4,h5,h6,h7,h8⟩
  rw [hr a y dU h1] at h7
  exact ⟨v,H',h2,h3,h4,h5,h6,h7,h8⟩
def nM:Net:=⟨[⟨3,0,0⟩,⟨3,1,0⟩,⟨3,2,0⟩,⟨3,3,0⟩],[⟨2,2,3,0,0⟩,⟨2,4,5,0,0⟩,⟨3,6,7,0,0⟩],[⟨5,0,0⟩],[8]⟩
def nN:Net:=⟨[⟨3,0,0⟩,⟨3,1,0⟩,⟨3,2,0⟩,⟨3,3,0⟩,⟨3,4,0⟩],[⟨2,2,3,0,0⟩,⟨2,4,5,0,0⟩,⟨3,7,8,0,0⟩,⟨4,9,6,0,0⟩],[⟨5,0,0⟩],[10]⟩
def sY:dM:=⟨4,[⟨[2,3,4,5],63624,-1⟩],[6]⟩
def Qz:jn:=⟨[8],[[2,3,4,5]]⟩
def QA:dM:=⟨5,[⟨[2,3,4,5],63624,-1⟩,⟨[6,7],6,-1⟩],[8]⟩
def cX2:jn:=⟨[9,10],[[2,3,4,5],[6,9]]⟩
theorem A8 {I i:Nat} {o a b c n:Int} (h:(1<=o/\o<=7)/\(0<=a/\a < 2+(I:Int)+i)/\(0<=b/\b < 2+(I:Int)+i)/\(0<=c/\c < 2+(I:Int)+i)/\(0<=n/\n < 64)):Gh (2+(I:Int)+i) ⟨o,a,b,c,n⟩:=⟨h.1,h.2.1,h.2.2.1,h.2.2.2.1,h.2.2.2.2⟩
theorem gX1:cI nM.ins.length nM.cg:=⟨by decide,λi g h=>by
 rcases i with _|_|_|i
 ·cases h;exact A8 (I:=4) (i:=0) (by decide)
 ·cases h;exact A8 (I:=4) (i:=1) (by decide)
 ·cases h;exact A8 (I:=4) (i:=2) (by decide)
 ·simp [nM] at h⟩
theorem gX2:cI nN.ins.length nN.cg:=⟨by decide,λi g h=>by
 rcases i with _|_|_|_|i
 ·cases h;exact A8 (I:=5) (i:=0) (by decide)
 ·cases h;exact A8 (I:=5) (i:=1) (by decide)
 ·cases h;exact A8 (I:=5) (i:=2) (by decide)
 ·cases h;exact A8 (I:=5) (i:=3) (by decide)
 ·simp [nN] at h⟩
theorem O9:wC nM sY Qz 0:=⟨gX1,by decide,by decide,by kernel_rfl⟩
theorem Yx:wC nN QA cX2 0:=⟨gX2,by decide,by decide,by kernel_rfl⟩
def KE:dV:=(iS 5 nN.cg).getD ⟨[],[],[]⟩
theorem akJ:cI nN.ins.length nN.cg/\iS nN.ins.length nN.cg=some KE:=⟨gX2,by kernel_rfl⟩
theorem agW:KE.labels=[0,0,0,0,0,0,0,1,1,1,2]:=by kernel_rfl
theorem dX1:wb sY=1:=by kernel_rfl
theorem dX2:wb QA=2:=by kernel_rfl
theorem vX1:Ax sY=true:=by kernel_rfl
theorem vX0:Ax ⟨0,[],[2]⟩=false:=by kernel_rfl
theorem KF:kO [] [true,true,false,true] sY.cells=[false,true,true,true,false,true,true]:=by kernel_rfl
theorem kX0:wB (uM nM.ins.length nM.cg nM.bf sY ⟨[],[]⟩)=260:=by kernel_rfl
def q9 (b:Bool):Net:=if b then nN else nM
@[reducible] noncomputable def aim:oV where
 α:=Bool
 args b:=[.b (λ_=>b)]
 pre b:=True
 β:=Net
 post b y:=y=q9 b
 res b y:=.agg (px y)
noncomputable def akK (n m:Nat):Ctx:=cT n m [] [] [] [] [2] [30]
theorem agX (n m:Nat):CB PP (akK n m):=cW n m trivial trivial
noncomputable def cTw (n m:Nat):Ctx:=cT n m [] []
theorem ain (n m:Nat):CB PP (cTw n m):=cW n m trivial trivial
theorem aeB:rq PP 13 aim:=by
 refine Nq (agX 0 0) (fo Try.func13) (λa=>⟨trivial,trivial⟩) (λa y=>uH y) ?_
 intro b hb
 clear hb
 have h1:b=false->nM=q9 b:=λh=>by rw [h];rfl
 have h2:b=true->nN=q9 b:=λh=>by rw [h];rfl
 refine ⟨?_⟩
 cbv
 refine ⟨[⟨3,0,0⟩,⟨3,1,0⟩,⟨3,2,0⟩,⟨3,3,0⟩],⟨by exact fj,rfl⟩,?_⟩
 cbv
 refine ⟨[⟨5,0,0⟩],⟨by exact fj,rfl⟩,?_⟩
 cbv
 refine Sat.jN (ain 0 0) ?_
 cbv
 refine ⟨λh=>?_,λh=>?_⟩
 ·have e:=h2 h.out
  clear h
  cbv
  refine ⟨[⟨3,4,0⟩],⟨by exact fj,rfl⟩,?_⟩
  cbv
  refine ⟨[⟨3,4,0⟩],⟨by exact aY,by decide,by decide⟩,?_⟩
  cbv
  exact .mk' nN ⟨by exact aY⟩ e
 ·have e:=h1 h.out
  clear h
  cbv
  exact .mk' nM ⟨by exact aY⟩ e
@[reducible] noncomputable def Xm:Vc.Spec where
 α:=Bool
 args b:=[.b (λ_=>b)]
 pre b:=True
 res b:=.agg (px (q9 b))
theorem afE:dw (PP ()) 13 Xm:=adq aeB (U2 Try.func13 (by kernel_rfl)) (λa=>a) (λa=>rfl) (λa h=>trivial) (λa y _ hy=>by
 show SV.agg (px y)=SV.agg (px (q9 a))
 rw [hy]) (λa=>uH _) rfl
end Go.Proofs.Pk
