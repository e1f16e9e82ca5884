import Derived.Test.YthnhbemmlfaihaaC13
import Derived.Test.YthnhbemmlfaihaaC24
import Derived.Test.YthnhbemmlfaihaaC25
import Derived.Test.YthnhbemmlfaihaaC28
import Derived.Test.YthnhbemmlfaihaaC29
set_option linter.unusedVariables false
set_option linter.unusedSimpArgs false
set_option maxRecDepth 10000
set_option maxHeartbeats 64000000
namespace Go.Proofs.Pk
open Go Go.Vc
structure ajZ where
 l:List Int
 D:List Int
@[reducible] noncomputable def XT:Vc.Spec where
 α:=ajZ
 args x:=[.sl 1 bH (λ_=>x.l),.cZ [.sl 1 bH (λ_=>x.D)] 0]
 pre x:=kD x.D x.l
 res x:=.i .i64 (λ_=>bY x.D x.l)
noncomputable def aj0 (n m:Nat):Ctx:=cP n m [] []
theorem VP (n m:Nat):CB PP (aj0 n m):=cR n m trivial trivial
theorem agm:dm (PP ()) 26 XT:=by
 refine fl (VP 0 0) (fo Try.func26) (λa=>⟨λx=>(dq x).1,⟨λx=>(dq x).1,trivial⟩,trivial⟩) (λa=>trivial) ?_
 rintro ⟨l,L⟩ hx
 have hx:kD L l:=hx
 have nm:=hx.len
 have Pv:bY L (l.take 0)=0:=rfl
 refine ⟨?_⟩
 cbv
 refine Sat.eE (VP 0 0) 0 4 [] (λi:Nat=>[(4,.i .i64 (λ_=>bY L (l.take i))),(7,.sl 1 bH (λ_=>l)),(8,.i .i64 (λ_=>(l.length:Int))),(9,.i .i64 λ_=>(i:Int))]) (λ_=>[]) (λi=>i<=l.length) (λi=>l.length - i) 0 (by have gE:=Pv.symm;exact a8) (by exact aW) (cK _) ?_
 intro i hi
 have hi:i<=l.length:=hi
 have h0:=n0 i
 have h1:=eO (i:=i) (by omega)
 cbv
 refine ⟨λh=>?_,λh=>?_⟩
 ·have bP:i < l.length:=aL
  have cy:l.length - (i+1) < l.length - i:=by omega
  refine (cC bP).elim λv hv=>?_
  have hb:=hx.mem v (cL hv)
  refine (cC (l:=L) (i:=v.toNat) (by omega)).elim λx lG=>?_
  have cS:=Rw hv lG
  have ko:=hb.1
  clear h
  cbv
  refine ⟨v,⟨h0,hv⟩,?_⟩
  cbv
  refine ⟨x,⟨ko,lG⟩,?_⟩
  cbv
  exact ⟨i+1,by have bE:=cS;have fO:=h1;exact a8,by exact aW,⟨⟨bP,cy⟩⟩⟩
 ·have b9:l.length<=i:=aL
  have hr:bY L (l.take i)=bY L l:=by rw [jj b9]
  cbv
  exact ⟨by have bE:=hr;exact bJ⟩
structure aj1 where
 m:ec
 d:Int
structure Jj (m:ec) (d:Int):Prop where
 v:z7 m
 cin:∀x∈m.cells,x.ins.length<=1000000
 dr:m.bf.length<=1000000
 eq:vJ m=d
@[reducible] noncomputable def XU:Vc.Spec where
 α:=aj1
 args x:=[.agg (xY x.m)]
 pre x:=Jj x.m x.d
 res x:=.i .i64 (λ_=>x.d)
noncomputable def aj2 (n m:Nat):Ctx:=cP n m [] [(26,XT)]
theorem VQ (n m:Nat):CB PP (aj2 n m):=cR n m trivial ⟨agm,trivial⟩
theorem agn:dm (PP ()) 14 XU:=by
 refine fl (VQ 0 0) (fo Try.func14) (λa=>⟨zh a.m,trivial⟩) (λa=>trivial) ?_
 rintro ⟨⟨mn,mc,md⟩,d⟩ hx
 have hx:Jj ⟨mn,mc,md⟩ d:=hx
 have ON:mc.length<=600:=by have:=hx.v.n6;have:=hx.v.n0;simp only at *;omega
 refine (ajf hx.v hx.cin hx.dr).elim λD hF=>?_
 refine hF.elim λW hF=>?_
 have yk:=hF.w0
 have hW:2+mn=W:=hF.w
 have sx:IntKind.i64.wrap (2+mn)=W:=by rw [hW];exact ei (by omega) (by omega)
 have wE:IntKind.i64.wrap (IntKind.i64.wrap (2+mn)+(mc.length:Int))=W+mc.length:=by rw [sx];exact ei (by omega) (by omega)
 have qg:0<=IntKind.i64.wrap (2+mn)/\IntKind.i64.wrap (2+mn)<=IntKind.i64.wrap (IntKind.i64.wrap (2+mn)+(mc.length:Int))/\((8:Nat):Int)*IntKind.i64.wrap (IntKind.i64.wrap (2+mn)+(mc.length:Int))<=281474976710656/\IntKind.i64.wrap (IntKind.i64.wrap (2+mn)+(mc.length:Int))<=9223372036854775807:=by rw [wE,sx];omega
 have hz:List.replicate (IntKind.i64.wrap (2+mn)).toNat 0=D 0:=by rw [sx];exact hF.z
 have fN:∀(i:Nat) (x:Cell),mc[i]?=some x->D i++[1+bY (D i) x.ins]=D (i+1)/\kD (D i) x.ins/\IntKind.i64.wrap (1+bY (D i) x.ins)=1+bY (D i) x.ins:=hF.grow
 have jF:∀i,i<=mc.length->(D i).length<=600:=hF.len
 have mG:∀i,i<=mc.length->mc.length<=i->kD (D i) md/\bY (D i) md=d:=λi h1 h2=>by
  have:=hF.fin i h1 h2
  exact ⟨this.1,this.2.trans hx.eq⟩
 clear hF hx
 refine ⟨?_⟩
 cbv
 refine ⟨⟨qg⟩,?_⟩
 refine Sat.eE (VQ 0 0) 3 5 [(.c 2 0,1)] (λi:Nat=>[(20,.sl 3 mC (λ_=>mc)),(21,.i .i64 (λ_=>(mc.length:Int))),(22,.i .i64 (λ_=>(i:Int)))]) (λi=>[(1,.dyn 3 1 bH (λ_=>D i)),(2,.fix 32 [.own 1])]) (λi=>i<=mc.length) (λi=>mc.length - i) 0 (by exact aW) (by have eG:=hz;exact a8) (cK _) ?_
 intro i hi
 have hi:i<=mc.length:=hi
 have dP:=n0 i
 have gB:=eO (i:=i) (by omega)
 have nm:=jF i hi
 have b1:((D i).length+1)*8<=140737488355328:=by omega
 have b2:(D i).length+1<=9223372036854775807:=by omega
 have mG:=mG i hi
 cbv
 refine ⟨λh=>?_,λh=>?_⟩
 ·have bP:i < mc.length:=aL
  have cy:mc.length - (i+1) < mc.length - i:=by omega
  refine (cC bP).elim λx=>?_
  refine x.casesOn λxi xt xr hx=>?_
  refine (⟨_,rfl⟩:∃g,bY (D i) xi=g).elim λg hg=>?_
  have h3:D i++[1+bY (D i) xi]=D (i+1)/\kD (D i) xi/\IntKind.i64.wrap (1+bY (D i) xi)=1+bY (D i) xi:=fN i _ hx
  have h4:=h3.2.1
  have h5:=h3.2.2
  have h6:=h3.1
  refine (⟨_,rfl⟩:∃q,1+bY (D i) xi=q).elim λq hq=>?_
  rw [hq] at h6
  have h5:=h5.trans hq
  clear h h3
  cbv
  refine ⟨⟨xi,xt,xr⟩,⟨dP,hx⟩,?_⟩
  cbv
  refine ⟨⟨xi,D i⟩,⟨.inl ⟨by exact a7,rfl⟩,h4⟩,?_⟩
  cbv
  refine ⟨[q],⟨by have bE:=h5;exact bJ,b1,b2⟩,?_⟩
  cbv
  exact ⟨i+1,by have bE:=gB;exact a8,by have eG:=h6;exact a8,⟨⟨bP,cy⟩⟩⟩
 ·have b9:mc.length<=i:=aL
  have h1:=(mG b9).1
  have h2:=(mG b9).2
  clear h
  cbv
  refine ⟨⟨md,D i⟩,⟨.inl ⟨by exact a7,rfl⟩,h1⟩,?_⟩
  cbv
  exact ⟨by have bE:=h2;exact bJ⟩
theorem abT {l m:List (List Int)} (hn:l.Nodup) (hs:∀x∈l,x∈m):l.length<=m.length:=by
 induction l generalizing m with
 | nil=>simp
 | cons a r ih =>
  have lH:=yO.1 hn
  have ha:=hs a (by simp)
  have h1:=ih (m:=m.erase a) lH.2 λx hx=>by
   have bM:x≠a:=by rintro rfl;exact lH.1 hx
   exact (List.mem_erase_of_ne bM).2 (hs x (by simp [hx]))
  rw [List.length_erase_of_mem ha] at h1
  have h2:0 < m.length:=List.length_pos_of_mem ha
  simp only [oy]
  omega
structure Seen (l:List dV) (s:List (List Int)):Prop where
 sub:∀k∈s,k∈l.map z8
 nd:s.Nodup
theorem Seen.more {l:List dV} {s:List (List Int)} (h:Seen l s) {x:dV} (hx:x∈l) (hn:z8 x∉s):Seen l (s++[z8 x])/\l.length - (s++[z8 x]).length < l.length - s.length:=by
 have h1:Seen l (s++[z8 x]):=⟨λk hk=>by
  rcases eA.1 hk with hk|hk
  ·exact h.sub k hk
  ·rw [qD.1 hk];exact Dt hx,G7.2 ⟨h.nd,by simp,λa ha b hb e=>by simp at hb;subst hb;subst e;exact hn ha⟩⟩
 have h2:=abT h1.nd h1.sub
 rw [fJ,kr,yY] at h2
 exact ⟨h1,by rw [fJ,yY];omega⟩
structure aj3 where
 n:Net
 m:ec
theorem Cg.all {p:dZ} {st sig out:List Int} (h:Cg p st sig out) (ha:∀c,c < p.blocks.length->St st 2 c):out=NB p:=by
 refine o0 λb=>?_
 unfold NB
 rw [k8]
 by_cases hb:b < p.blocks.length
 ·have hx:p.blocks[b]?=some p.blocks[b]:=eB hb
  rw [Lh hb]
  simp only [yP]
  unfold XN
  rw [hx]
  simp only
  split
  ·rename_i hr;exact (h.cF b _ hx hr).2.2
  ·rename_i hr;exact (h.done b _ hx (by omega) (ha b hb)).2
 ·rw [ox (by rw [h.ol];omega),ox (by simpa using hb)];rfl
structure P5 (p:dZ) (i:Nat) (sig:List Int):Prop where
 le:i<=p.ins.length
 sl:sig.length=p.ins.length+2*p.blocks.length
 Ch:∀s:Nat,s < i->sig[s]?=some (Ex p s)
theorem P5.add {p:dZ} {i:Nat} {sig:List Int} (h:P5 p i sig) {w:dV} (hw:p.ins[i]?=some w):P5 p (i+1) (sig.set i (oD [2,w.kind,w.i,w.bit])):=by
 have aQ:=(bq.1 hw).1
 refine ⟨aQ,by simp [h.sl],λs hs=>?_⟩
 by_cases e:s=i
 ·subst e
  have gv:=h.sl
  rw [jN]
  simp only [if_true]
  rw [if_pos (by omega)]
  unfold Ex
  rw [jw,List.getD_eq_getElem?_getD,hw]
  rfl
 ·rw [fQ (λh=>e h.symm)];exact h.Ch s (by omega)
structure CT (p:dZ) (i:Nat) (sig out:List Int):Prop where
 le:i<=p.blocks.length
 sl:sig.length=p.ins.length+2*p.blocks.length
 ol:out.length=p.blocks.length
 Ch:∀s:Nat,s < p.ins.length->sig[s]?=some (Ex p s)
 cF:∀(b:Nat) (x:Block),b < i->p.blocks[b]?=some x->0<=x.cF->sig[p.ins.length+2*b]?=some (oD [3,x.cF])/\sig[p.ins.length+2*b+1]?=some (oD [1,x.cF])/\out[b]?=some (oD [1,x.cF])
theorem CT.skip {p:dZ} {i:Nat} {sig out:List Int} (h:CT p i sig out) {x:Block} (hx:p.blocks[i]?=some x) (hr:x.cF < 0):CT p (i+1) sig out :=
 ⟨(
  bq.1 hx).1,h.sl,h.ol,h.Ch,λb y hb hy h0=>by
  by_cases e:b=i
  ·subst e;rw [hx] at hy;cases hy;omega
  ·exact h.cF b y (by omega) hy h0⟩
theorem CT.add {p:dZ} {i:Nat} {sig out:List Int} (h:CT p i sig out) {x:Block} (hx:p.blocks[i]?=some x) (hr:0<=x.cF):CT p (i+1) ((sig.set (p.ins.length+2*i) (oD [3,x.cF])).set (p.ins.length+2*i+1) (oD [1,x.cF])) (out.set i (oD [1,x.cF])):=by
 have aQ:=(bq.1 hx).1
 have gv:=h.sl
 have Fo:=h.ol
 refine ⟨aQ,by simp [gv],by simp [Fo],λs hs=>?_,λb y hb hy h0=>?_⟩
 ·rw [fQ (by omega),fQ (by omega)];exact h.Ch s hs
 ·by_cases e:b=i
  ·subst e;rw [hx] at hy;cases hy
   refine ⟨?_,?_,?_⟩
   ·rw [fQ (by omega),jN];simp;omega
   ·rw [jN];simp;omega
   ·rw [jN];simp;omega
  ·rw [fQ (by omega),fQ (by omega),fQ (by omega),fQ (by omega),fQ (by omega)]
   exact h.cF b y (by omega) hy h0
open Classical in
noncomputable def aqX (y:aj3):dZ × Int:=if (y.n.ins.length:Int)=y.m.n/\y.n.outs.length=y.m.bf.length then (ahE y.n y.m,0) else (⟨[],[],[],[]⟩,270)
theorem acR {P:Unit->Program} {f:FuncId} {S:o7} {T:Vc.Spec} {fn:Func} (I:sE P f S) (F:kA (P ()) f fn) (c:T.α->S.α) (ha:∀a,T.args a=S.args (c a)) (hp:∀a,T.pre a->S.pre (c a)) (hr:∀a y,T.pre a->S.post (c a) y->S.res (c a) y=T.res a) (Pn:∀a,LF (T.res a)) (sy:T.fr=false):dm (P ()) f T where
 fn:=⟨fn,F⟩
 lf:=λa=>by rw [ha];exact I.lf _
 lr:=Pn
 fresh:=λh=>by rw [sy] at h;cases h
 run:=λa dL H F' w vals hH hF iX=>by
  rw [ha] at iX
  refine (I.run (c a) (hp a dL) H F' w vals hH hF iX).mono ?_
  rintro e w' ⟨y,v,H',h1,h2,h3,h4,h5,h6,h7,h8⟩
  rw [hr a y dL h1] at h7
  exact ⟨v,H',h2,h3,h4,h5,h6,h7,h8⟩
def ny:Net:=⟨[⟨3,0,0⟩,⟨3,1,0⟩,⟨3,2,0⟩,⟨3,3,0⟩],[⟨2,2,3,0,0⟩,⟨2,4,5,0,0⟩,⟨3,6,7,0,0⟩],[⟨5,0,0⟩],[8]⟩
def nA:Net:=⟨[⟨3,0,0⟩,⟨3,1,0⟩,⟨3,2,0⟩,⟨3,3,0⟩,⟨3,4,0⟩],[⟨2,2,3,0,0⟩,⟨2,4,5,0,0⟩,⟨3,7,8,0,0⟩,⟨4,9,6,0,0⟩],[⟨5,0,0⟩],[10]⟩
def sK:ec:=⟨4,[⟨[2,3,4,5],63624,-1⟩],[6]⟩
def P6:kp:=⟨[8],[[2,3,4,5]]⟩
def P7:ec:=⟨5,[⟨[2,3,4,5],63624,-1⟩,⟨[6,7],6,-1⟩],[8]⟩
def cX2:kp:=⟨[9,10],[[2,3,4,5],[6,9]]⟩
theorem AH {I i:Nat} {o a b c n:Int} (h:(1<=o/\o<=7)/\(0<=a/\a < 2+(I:Int)+i)/\(0<=b/\b < 2+(I:Int)+i)/\(0<=c/\c < 2+(I:Int)+i)/\(0<=n/\n < 64)):uX (2+(I:Int)+i) ⟨o,a,b,c,n⟩:=⟨h.1,h.2.1,h.2.2.1,h.2.2.2.1,h.2.2.2.2⟩
theorem Z0:cv ny.ins.length ny.bU:=⟨by decide,λi g h=>by
 rcases i with _|_|_|i
 ·cases h;exact AH (I:=4) (i:=0) (by decide)
 ·cases h;exact AH (I:=4) (i:=1) (by decide)
 ·cases h;exact AH (I:=4) (i:=2) (by decide)
 ·simp [ny] at h⟩
theorem Z1:cv nA.ins.length nA.bU:=⟨by decide,λi g h=>by
 rcases i with _|_|_|_|i
 ·cases h;exact AH (I:=5) (i:=0) (by decide)
 ·cases h;exact AH (I:=5) (i:=1) (by decide)
 ·cases h;exact AH (I:=5) (i:=2) (by decide)
 ·cases h;exact AH (I:=5) (i:=3) (by decide)
 ·simp [nA] at h⟩
theorem OC:uM ny sK P6 0:=⟨Z0,by decide,by decide,by kernel_rfl⟩
theorem XV:uM nA P7 cX2 0:=⟨Z1,by decide,by decide,by kernel_rfl⟩
def J4:dJ:=(iF 5 nA.bU).getD ⟨[],[],[]⟩
theorem aj6:cv nA.ins.length nA.bU/\iF nA.ins.length nA.bU=some J4:=⟨Z1,by kernel_rfl⟩
theorem ago:J4.labels=[0,0,0,0,0,0,0,1,1,1,2]:=by kernel_rfl
theorem dX1:vJ sK=1:=by kernel_rfl
theorem dX2:vJ P7=2:=by kernel_rfl
theorem vX1:z6 sK=true:=by kernel_rfl
theorem vX0:z6 ⟨0,[],[2]⟩=false:=by kernel_rfl
theorem J5:kE [] [true,true,false,true] sK.cells=[false,true,true,true,false,true,true]:=by kernel_rfl
theorem kX0:vZ (BC ny.ins.length ny.bU ny.bf sK ⟨[],[]⟩)=260:=by kernel_rfl
def qP (b:Bool):Net:=if b then nA else ny
@[reducible] noncomputable def ahI:o7 where
 α:=Bool
 args b:=[.b (λ_=>b)]
 pre b:=True
 β:=Net
 post b y:=y=qP b
 res b y:=.agg (oj y)
noncomputable def aj7 (n m:Nat):Ctx:=cP n m [] [] [] [] [2] [30]
theorem agp (n m:Nat):CB PP (aj7 n m):=cR n m trivial trivial
noncomputable def cTw (n m:Nat):Ctx:=cP n m [] []
theorem ahJ (n m:Nat):CB PP (cTw n m):=cR n m trivial trivial
theorem adZ:sE PP 13 ahI:=by
 refine Vb (agp 0 0) (fo Try.func13) (λa=>⟨trivial,trivial⟩) (λa y=>td y) ?_
 intro b hb
 clear hb
 have h1:b=false->ny=qP b:=λh=>by rw [h];rfl
 have h2:b=true->nA=qP b:=λh=>by rw [h];rfl
 refine ⟨?_⟩
 cbv
 refine ⟨[⟨3,0,0⟩,⟨3,1,0⟩,⟨3,2,0⟩,⟨3,3,0⟩],⟨by exact gw,rfl⟩,?_⟩
 cbv
 refine ⟨[⟨5,0,0⟩],⟨by exact gw,rfl⟩,?_⟩
 cbv
 refine Sat.iR (ahJ 0 0) ?_
 cbv
 refine ⟨λh=>?_,λh=>?_⟩
 ·have e:=h2 h.out
  clear h
  cbv
  refine ⟨[⟨3,4,0⟩],⟨by exact gw,rfl⟩,?_⟩
  cbv
  refine ⟨[⟨3,4,0⟩],⟨by exact a7,by decide,by decide⟩,?_⟩
  cbv
  exact .mk' nA ⟨by exact a7⟩ e
 ·have e:=h1 h.out
  clear h
  cbv
  exact .mk' ny ⟨by exact a7⟩ e
@[reducible] noncomputable def WJ:Vc.Spec where
 α:=Bool
 args b:=[.b (λ_=>b)]
 pre b:=True
 res b:=.agg (oj (qP b))
theorem ae5:dm (PP ()) 13 WJ:=acR adZ (Uu Try.func13 (by kernel_rfl)) (λa=>a) (λa=>rfl) (λa h=>trivial) (λa y _ hy=>by
 show SV.agg (oj y)=SV.agg (oj (qP a))
 rw [hy]) (λa=>td _) rfl
end Go.Proofs.Pk
