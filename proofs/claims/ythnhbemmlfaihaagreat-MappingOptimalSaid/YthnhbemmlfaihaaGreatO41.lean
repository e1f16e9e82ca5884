import Derived.Test.YthnhbemmlfaihaaGreatO13
import Derived.Test.YthnhbemmlfaihaaGreatO30
import Derived.Test.YthnhbemmlfaihaaGreatO31
import Derived.Test.YthnhbemmlfaihaaGreatO35
import Derived.Test.YthnhbemmlfaihaaGreatO39
import Derived.Test.YthnhbemmlfaihaaGreatO40
set_option linter.unusedVariables false
set_option linter.unusedSimpArgs false
set_option maxRecDepth 10000
set_option maxHeartbeats 64000000
namespace Go.Proofs.Pk
open Go Go.Vc
structure arj where
 l:List Int
 D:List Int
@[reducible] noncomputable def adr:Vc.Spec where
 α:=arj
 args x:=[.sl 1 bC (λ_=>x.l),.dV [.sl 1 bC (λ_=>x.D)] 0]
 pre x:=jY x.D x.l
 res x:=.i .i64 (λ_=>bR x.D x.l)
noncomputable def ark (n m:Nat):Ctx:=dM n m [] []
theorem aaO (n m:Nat):CB PP (ark n m):=dP n m trivial trivial
theorem amI:dt (PP ()) 119 adr:=by
 refine e6 (aaO 0 0) (fo Tryz.func119) (λa=>⟨λx=>(cP x).1,⟨λx=>(cP x).1,trivial⟩,trivial⟩) (λa=>trivial) ?_
 rintro ⟨l,L⟩ hx
 have hx:jY L l:=hx
 have mJ:=hx.len
 have za:bR L (l.take 0)=0:=rfl
 refine ⟨?_⟩
 cbv
 refine Sat.cU (aaO 0 0) 0 4 [] (λi:Nat=>[(4,.i .i64 (λ_=>bR L (l.take i))),(7,.sl 1 bC (λ_=>l)),(8,.i .i64 (λ_=>(l.length:Int))),(9,.i .i64 λ_=>(i:Int))]) (λ_=>[]) (λi=>i<=l.length) (λi=>l.length - i) 0 (by have iC:=za.symm;exact a8) (by exact aM) (cg _) ?_
 intro i hi
 have hi:i<=l.length:=hi
 have h0:=n0 i
 have h1:=cX (i:=i) (by omega)
 cbv
 refine ⟨λh=>?_,λh=>?_⟩
 ·have bQ:i < l.length:=aL
  have bX:l.length - (i+1) < l.length - i:=by omega
  refine (bK bQ).elim λv hv=>?_
  have hb:=hx.mem v (cf hv)
  refine (bK (l:=L) (i:=v.toNat) (by omega)).elim λx fG=>?_
  have cC:=Kw hv fG
  have eM:=hb.1
  clear h
  cbv
  refine ⟨v,⟨h0,hv⟩,?_⟩
  cbv
  refine ⟨x,⟨eM,fG⟩,?_⟩
  cbv
  exact ⟨i+1,by have bD:=cC;have jE:=h1;exact a8,by exact aM,⟨⟨bQ,bX⟩⟩⟩
 ·have cz:l.length<=i:=aL
  have hr:bR L (l.take i)=bR L l:=by rw [iL cz]
  cbv
  exact ⟨by have bD:=hr;exact cd⟩
structure arl where
 m:dK
 d:Int
structure C2 (m:dK) (d:Int):Prop where
 v:yJ m
 cin:∀x∈m.cells,x.ins.length<=1000000
 dr:m.bj.length<=1000000
 eq:rW m=d
@[reducible] noncomputable def Tc:Vc.Spec where
 α:=arl
 args x:=[.agg (yH x.m)]
 pre x:=C2 x.m x.d
 res x:=.i .i64 (λ_=>x.d)
noncomputable def arn (n m:Nat):Ctx:=dM n m [] [(119,adr)]
theorem aaP (n m:Nat):CB PP (arn n m):=dP n m trivial ⟨amI,trivial⟩
theorem aaQ:dt (PP ()) 46 Tc:=by
 refine e6 (aaP 0 0) (fo Tryz.func46) (λa=>⟨z8 a.m,trivial⟩) (λa=>trivial) ?_
 rintro ⟨⟨mn,mc,md⟩,d⟩ hx
 have hx:C2 ⟨mn,mc,md⟩ d:=hx
 have I1:mc.length<=600:=by have:=hx.v.n6;have:=hx.v.n0;simp only at *;omega
 refine (aqs hx.v hx.cin hx.dr).elim λD hF=>?_
 refine hF.elim λW hF=>?_
 have Ba:=hF.w0
 have hW:2+mn=W:=hF.w
 have kO:IntKind.i64.wrap (2+mn)=W:=by rw [hW];exact cW (by omega) (by omega)
 have n7:IntKind.i64.wrap (IntKind.i64.wrap (2+mn)+(mc.length:Int))=W+mc.length:=by rw [kO];exact cW (by omega) (by omega)
 have lg:0<=IntKind.i64.wrap (2+mn)/\IntKind.i64.wrap (2+mn)<=IntKind.i64.wrap (IntKind.i64.wrap (2+mn)+(mc.length:Int))/\((8:Nat):Int)*IntKind.i64.wrap (IntKind.i64.wrap (2+mn)+(mc.length:Int))<=281474976710656/\IntKind.i64.wrap (IntKind.i64.wrap (2+mn)+(mc.length:Int))<=9223372036854775807:=by rw [n7,kO];omega
 have hz:List.replicate (IntKind.i64.wrap (2+mn)).toNat 0=D 0:=by rw [kO];exact hF.z
 have gJ:∀(i:Nat) (x:Cell),mc[i]?=some x->D i++[1+bR (D i) x.ins]=D (i+1)/\jY (D i) x.ins/\IntKind.i64.wrap (1+bR (D i) x.ins)=1+bR (D i) x.ins:=hF.grow
 have kP:∀i,i<=mc.length->(D i).length<=600:=hF.len
 have oJ:∀i,i<=mc.length->mc.length<=i->jY (D i) md/\bR (D i) md=d:=λi h1 h2=>by
  have:=hF.fin i h1 h2
  exact ⟨this.1,this.2.trans hx.eq⟩
 clear hF hx
 refine ⟨?_⟩
 cbv
 refine ⟨⟨lg⟩,?_⟩
 refine Sat.cU (aaP 0 0) 3 5 [(.c 2 0,1)] (λi:Nat=>[(20,.sl 3 mw (λ_=>mc)),(21,.i .i64 (λ_=>(mc.length:Int))),(22,.i .i64 (λ_=>(i:Int)))]) (λi=>[(1,.dyn 3 1 bC (λ_=>D i)),(2,.fix 35 [.own 1])]) (λi=>i<=mc.length) (λi=>mc.length - i) 0 (by exact aM) (by have fq:=hz;exact a8) (cg _) ?_
 intro i hi
 have hi:i<=mc.length:=hi
 have cZ:=n0 i
 have ei:=cX (i:=i) (by omega)
 have mJ:=kP i hi
 have b1:((D i).length+1)*8<=140737488355328:=by omega
 have b2:(D i).length+1<=9223372036854775807:=by omega
 have oJ:=oJ i hi
 cbv
 refine ⟨λh=>?_,λh=>?_⟩
 ·have bQ:i < mc.length:=aL
  have bX:mc.length - (i+1) < mc.length - i:=by omega
  refine (bK bQ).elim λx=>?_
  refine x.casesOn λxi xt xr hx=>?_
  refine (⟨_,rfl⟩:∃g,bR (D i) xi=g).elim λg hg=>?_
  have h3:D i++[1+bR (D i) xi]=D (i+1)/\jY (D i) xi/\IntKind.i64.wrap (1+bR (D i) xi)=1+bR (D i) xi:=gJ i _ hx
  have h4:=h3.2.1
  have h5:=h3.2.2
  have h6:=h3.1
  refine (⟨_,rfl⟩:∃q,1+bR (D i) xi=q).elim λq hq=>?_
  rw [hq] at h6
  have h5:=h5.trans hq
  clear h h3
  cbv
  refine ⟨⟨xi,xt,xr⟩,⟨cZ,hx⟩,?_⟩
  cbv
  refine ⟨⟨xi,D i⟩,⟨.inl ⟨by exact bp,rfl⟩,h4⟩,?_⟩
  cbv
  refine ⟨[q],⟨by have bD:=h5;exact cd,b1,b2⟩,?_⟩
  cbv
  exact ⟨i+1,by have bD:=ei;exact a8,by have fq:=h6;exact a8,⟨⟨bQ,bX⟩⟩⟩
 ·have cz:mc.length<=i:=aL
  have h1:=(oJ cz).1
  have h2:=(oJ cz).2
  clear h
  cbv
  refine ⟨⟨md,D i⟩,⟨.inl ⟨by exact bp,rfl⟩,h1⟩,?_⟩
  cbv
  exact ⟨by have bD:=h2;exact cd⟩
theorem ahH {l m:List (List Int)} (hn:l.Nodup) (hs:∀x∈l,x∈m):l.length<=m.length:=by
 induction l generalizing m with
 | nil=>simp
 | cons a r ih =>
  have nv:=x5.1 hn
  have ha:=hs a (by simp)
  have h1:=ih (m:=m.erase a) nv.2 λx hx=>by
   have bO:x≠a:=by rintro rfl;exact nv.1 hx
   exact (List.mem_erase_of_ne bO).2 (hs x (by simp [hx]))
  rw [List.length_erase_of_mem ha] at h1
  have h2:0 < m.length:=List.length_pos_of_mem ha
  simp only [ql]
  omega
structure Seen (l:List eH) (s:List (List Int)):Prop where
 sub:∀k∈s,k∈l.map CV
 nd:s.Nodup
theorem Seen.more {l:List eH} {s:List (List Int)} (h:Seen l s) {x:eH} (hx:x∈l) (hn:CV x∉s):Seen l (s++[CV x])/\l.length - (s++[CV x]).length < l.length - s.length:=by
 have h1:Seen l (s++[CV x]):=⟨λk hk=>by
  rcases dD.1 hk with hk|hk
  ·exact h.sub k hk
  ·rw [gD.1 hk];exact G3 hx,KS.2 ⟨h.nd,by simp,λa ha b hb e=>by simp at hb;subst hb;subst e;exact hn ha⟩⟩
 have h2:=ahH h1.nd h1.sub
 rw [List.length_append,jP,sZ] at h2
 exact ⟨h1,by rw [List.length_append,sZ];omega⟩
structure aro where
 n:Net
 m:dK
theorem FC.all {p:eP} {st sig out:List Int} (h:FC p st sig out) (ha:∀c,c < p.blocks.length->St st 2 c):out=RW p:=by
 refine qS λb=>?_
 unfold RW
 rw [ml]
 by_cases hb:b < p.blocks.length
 ·have hx:p.blocks[b]?=some p.blocks[b]:=ea hb
  rw [Pp hb]
  simp only [BJ]
  unfold adk
  rw [hx]
  simp only
  split
  ·rename_i hr;exact (h.dg b _ hx hr).2.2
  ·rename_i hr;exact (h.done b _ hx (by omega) (ha b hb)).2
 ·rw [pD (by rw [h.ol];omega),pD (by simpa using hb)];rfl
structure UM (p:eP) (i:Nat) (sig:List Int):Prop where
 le:i<=p.ins.length
 sl:sig.length=p.ins.length+2*p.blocks.length
 FD:∀s:Nat,s < i->sig[s]?=some (H6 p s)
theorem UM.add {p:eP} {i:Nat} {sig:List Int} (h:UM p i sig) {w:eH} (hw:p.ins[i]?=some w):UM p (i+1) (sig.set i (qu [2,w.kind,w.i,w.bit])):=by
 have aO:=(a7.1 hw).1
 refine ⟨aO,by simp [h.sl],λs hs=>?_⟩
 by_cases e:s=i
 ·subst e
  have gS:=h.sl
  rw [gL]
  simp only [if_true]
  rw [if_pos (by omega)]
  unfold H6
  rw [ke,List.getD_eq_getElem?_getD,hw]
  rfl
 ·rw [gK (λh=>e h.symm)];exact h.FD s (by omega)
structure Gk (p:eP) (i:Nat) (sig out:List Int):Prop where
 le:i<=p.blocks.length
 sl:sig.length=p.ins.length+2*p.blocks.length
 ol:out.length=p.blocks.length
 FD:∀s:Nat,s < p.ins.length->sig[s]?=some (H6 p s)
 dg:∀(b:Nat) (x:Block),b < i->p.blocks[b]?=some x->0<=x.dg->sig[p.ins.length+2*b]?=some (qu [3,x.dg])/\sig[p.ins.length+2*b+1]?=some (qu [1,x.dg])/\out[b]?=some (qu [1,x.dg])
theorem Gk.skip {p:eP} {i:Nat} {sig out:List Int} (h:Gk p i sig out) {x:Block} (hx:p.blocks[i]?=some x) (hr:x.dg < 0):Gk p (i+1) sig out :=
 ⟨(
  a7.1 hx).1,h.sl,h.ol,h.FD,λb y hb hy h0=>by
  by_cases e:b=i
  ·subst e;rw [hx] at hy;cases hy;omega
  ·exact h.dg b y (by omega) hy h0⟩
theorem Gk.add {p:eP} {i:Nat} {sig out:List Int} (h:Gk p i sig out) {x:Block} (hx:p.blocks[i]?=some x) (hr:0<=x.dg):Gk p (i+1) ((sig.set (p.ins.length+2*i) (qu [3,x.dg])).set (p.ins.length+2*i+1) (qu [1,x.dg])) (out.set i (qu [1,x.dg])):=by
 have aO:=(a7.1 hx).1
 have gS:=h.sl
 have fj:=h.ol
 refine ⟨aO,by simp [gS],by simp [fj],λs hs=>?_,λb y hb hy h0=>?_⟩
 ·rw [gK (by omega),gK (by omega)];exact h.FD s hs
 ·by_cases e:b=i
  ·subst e;rw [hx] at hy;cases hy
   refine ⟨?_,?_,?_⟩
   ·rw [gK (by omega),gL];simp;omega
   ·rw [gL];simp;omega
   ·rw [gL];simp;omega
  ·rw [gK (by omega),gK (by omega),gK (by omega),gK (by omega),gK (by omega)]
   exact h.dg b y (by omega) hy h0
open Classical in
noncomputable def ay3 (y:aro):eP × Int:=if (y.n.ins.length:Int)=y.m.n/\y.n.outs.length=y.m.bj.length then (aoj y.n y.m,0) else (⟨[],[],[],[]⟩,270)
theorem aiE {P:Unit->Program} {f:FuncId} {S:jT} {T:Vc.Spec} {fn:Func} (I:kQ P f S) (F:lD (P ()) f fn) (c:T.α->S.α) (ha:∀a,T.args a=S.args (c a)) (hp:∀a,T.pre a->S.pre (c a)) (hr:∀a y,T.pre a->S.post (c a) y->S.res (c a) y=T.res a) (Dj:∀a,LF (T.res a)) (sx:T.fr=false):dt (P ()) f T where
 fn:=⟨fn,F⟩
 lf:=λa=>by rw [ha];exact I.lf _
 lr:=Dj
 fresh:=λh=>by rw [sx] at h;cases h
 run:=λa ej H F' w vals hH hF jv=>by
  rw [ha] at jv
  refine (I.run (c a) (hp a ej) H F' w vals hH hF jv).mono ?_
  rintro e w' ⟨y,v,H',h1,h2,h3,h4,h5,h6,h7,h8⟩
  rw [hr a y ej h1] at h7
  exact ⟨v,H',h2,h3,h4,h5,h6,h7,h8⟩
def pr:Net:=⟨[⟨3,0,0⟩,⟨3,1,0⟩,⟨3,2,0⟩,⟨3,3,0⟩],[⟨2,2,3,0,0⟩,⟨2,4,5,0,0⟩,⟨3,6,7,0,0⟩],[⟨5,0,0⟩],[8]⟩
def pv:Net:=⟨[⟨3,0,0⟩,⟨3,1,0⟩,⟨3,2,0⟩,⟨3,3,0⟩,⟨3,4,0⟩],[⟨2,2,3,0,0⟩,⟨2,4,5,0,0⟩,⟨3,7,8,0,0⟩,⟨4,9,6,0,0⟩],[⟨5,0,0⟩],[10]⟩
def vd:dK:=⟨4,[⟨[2,3,4,5],63624,-1⟩],[6]⟩
def UN:iQ:=⟨[8],[[2,3,4,5]]⟩
def UO:dK:=⟨5,[⟨[2,3,4,5],63624,-1⟩,⟨[6,7],6,-1⟩],[8]⟩
def cX2:iQ:=⟨[9,10],[[2,3,4,5],[6,9]]⟩
theorem Dz {I i:Nat} {o a b c n:Int} (h:(1<=o/\o<=7)/\(0<=a/\a < 2+(I:Int)+i)/\(0<=b/\b < 2+(I:Int)+i)/\(0<=c/\c < 2+(I:Int)+i)/\(0<=n/\n < 64)):Jo (2+(I:Int)+i) ⟨o,a,b,c,n⟩:=⟨h.1,h.2.1,h.2.2.1,h.2.2.2.1,h.2.2.2.2⟩
theorem gX1:cb pr.ins.length pr.aY:=⟨by decide,λi g h=>by
 rcases i with _|_|_|i
 ·cases h;exact Dz (I:=4) (i:=0) (by decide)
 ·cases h;exact Dz (I:=4) (i:=1) (by decide)
 ·cases h;exact Dz (I:=4) (i:=2) (by decide)
 ·simp [pr] at h⟩
theorem gX2:cb pv.ins.length pv.aY:=⟨by decide,λi g h=>by
 rcases i with _|_|_|_|i
 ·cases h;exact Dz (I:=5) (i:=0) (by decide)
 ·cases h;exact Dz (I:=5) (i:=1) (by decide)
 ·cases h;exact Dz (I:=5) (i:=2) (by decide)
 ·cases h;exact Dz (I:=5) (i:=3) (by decide)
 ·simp [pv] at h⟩
theorem Td:xg pr vd UN 0:=⟨gX1,by decide,by decide,by kernel_rfl⟩
theorem ads:xg pv UO cX2 0:=⟨gX2,by decide,by decide,by kernel_rfl⟩
def Og:dW:=(iO 5 pv.aY).getD ⟨[],[],[]⟩
theorem ars:cb pv.ins.length pv.aY/\iO pv.ins.length pv.aY=some Og:=⟨gX2,by kernel_rfl⟩
theorem amJ:Og.labels=[0,0,0,0,0,0,0,1,1,1,2]:=by kernel_rfl
theorem dX1:rW vd=1:=by kernel_rfl
theorem dX2:rW UO=2:=by kernel_rfl
theorem vX1:vX vd=true:=by kernel_rfl
theorem vX0:vX ⟨0,[],[2]⟩=false:=by kernel_rfl
theorem Oh:lZ [] [true,true,false,true] vd.cells=[false,true,true,true,false,true,true]:=by kernel_rfl
theorem kX0:yI (vE pr.ins.length pr.aY pr.bj vd ⟨[],[]⟩)=260:=by kernel_rfl
def tp (b:Bool):Net:=if b then pv else pr
@[reducible] noncomputable def aon:jT where
 α:=Bool
 args b:=[.b (λ_=>b)]
 pre b:=True
 β:=Net
 post b y:=y=tp b
 res b y:=.agg (jX y)
noncomputable def art (n m:Nat):Ctx:=dM n m [] [] [] [] [2] [45]
theorem amK (n m:Nat):CB PP (art n m):=dP n m trivial trivial
noncomputable def cTw (n m:Nat):Ctx:=dM n m [] []
theorem aoo (n m:Nat):CB PP (cTw n m):=dP n m trivial trivial
theorem ajU:kQ PP 103 aon:=by
 refine qZ (amK 0 0) (fo Tryz.func103) (λa=>⟨trivial,trivial⟩) (λa y=>mr y) ?_
 intro b hb
 clear hb
 have h1:b=false->pr=tp b:=λh=>by rw [h];rfl
 have h2:b=true->pv=tp b:=λh=>by rw [h];rfl
 refine ⟨?_⟩
 cbv
 refine ⟨[⟨3,0,0⟩,⟨3,1,0⟩,⟨3,2,0⟩,⟨3,3,0⟩],⟨by exact bW,rfl⟩,?_⟩
 cbv
 refine ⟨[⟨5,0,0⟩],⟨by exact bW,rfl⟩,?_⟩
 cbv
 refine Sat.jN (aoo 0 0) ?_
 cbv
 refine ⟨λh=>?_,λh=>?_⟩
 ·have e:=h2 h.out
  clear h
  cbv
  refine ⟨[⟨3,4,0⟩],⟨by exact bW,rfl⟩,?_⟩
  cbv
  refine ⟨[⟨3,4,0⟩],⟨by exact bp,by decide,by decide⟩,?_⟩
  cbv
  exact .mk' pv ⟨by exact bp⟩ e
 ·have e:=h1 h.out
  clear h
  cbv
  exact .mk' pr ⟨by exact bp⟩ e
@[reducible] noncomputable def abU:Vc.Spec where
 α:=Bool
 args b:=[.b (λ_=>b)]
 pre b:=True
 res b:=.agg (jX (tp b))
theorem ak6:dt (PP ()) 103 abU:=aiE ajU (QE Tryz.func103 (by kernel_rfl)) (λa=>a) (λa=>rfl) (λa h=>trivial) (λa y _ hy=>by
 show SV.agg (jX y)=SV.agg (jX (tp a))
 rw [hy]) (λa=>mr _) rfl
end Go.Proofs.Pk
