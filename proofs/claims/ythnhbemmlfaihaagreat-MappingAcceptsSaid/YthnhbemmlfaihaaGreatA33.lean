import Derived.Test.YthnhbemmlfaihaaGreatA13
import Derived.Test.YthnhbemmlfaihaaGreatA25
import Derived.Test.YthnhbemmlfaihaaGreatA26
import Derived.Test.YthnhbemmlfaihaaGreatA29
import Derived.Test.YthnhbemmlfaihaaGreatA31
import Derived.Test.YthnhbemmlfaihaaGreatA32
set_option linter.unusedVariables false
set_option linter.unusedSimpArgs false
set_option maxRecDepth 10000
set_option maxHeartbeats 64000000
namespace Go.Proofs.Pk
open Go Go.Vc
structure aka where
 l:List Int
 D:List Int
@[reducible] noncomputable def X9:Vc.Spec where
 α:=aka
 args x:=[.sl 1 bJ (λ_=>x.l),.db [.sl 1 bJ (λ_=>x.D)] 0]
 pre x:=jZ x.D x.l
 res x:=.i .i64 (λ_=>bW x.D x.l)
noncomputable def akb (n m:Nat):Ctx:=cW n m [] []
theorem V5 (n m:Nat):CB PP (akb n m):=cZ n m trivial trivial
theorem agy:cY (PP ()) 119 X9:=by
 refine e6 (V5 0 0) (fo Tryz.func119) (λa=>⟨λx=>(dq x).1,⟨λx=>(dq x).1,trivial⟩,trivial⟩) (λa=>trivial) ?_
 rintro ⟨l,L⟩ hx
 have hx:jZ L l:=hx
 have l9:=hx.len
 have FX:bW L (l.take 0)=0:=rfl
 refine ⟨?_⟩
 cbv
 refine Sat.dP (V5 0 0) 0 4 [] (λi:Nat=>[(4,.i .i64 (λ_=>bW L (l.take i))),(7,.sl 1 bJ (λ_=>l)),(8,.i .i64 (λ_=>(l.length:Int))),(9,.i .i64 λ_=>(i:Int))]) (λ_=>[]) (λi=>i<=l.length) (λi=>l.length - i) 0 (by have fW:=FX.symm;exact bq) (by exact aW) (cI _) ?_
 intro i hi
 have hi:i<=l.length:=hi
 have h0:=n0 i
 have h1:=eh (i:=i) (by omega)
 cbv
 refine ⟨λh=>?_,λh=>?_⟩
 ·have bO:i < l.length:=aG
  have cf:l.length - (i+1) < l.length - i:=by omega
  refine (cg bO).elim λv hv=>?_
  have hb:=hx.mem v (cM hv)
  refine (cg (l:=L) (i:=v.toNat) (by omega)).elim λx j4=>?_
  have cP:=KV hv j4
  have jH:=hb.1
  clear h
  cbv
  refine ⟨v,⟨h0,hv⟩,?_⟩
  cbv
  refine ⟨x,⟨jH,j4⟩,?_⟩
  cbv
  exact ⟨i+1,by have bK:=cP;have js:=h1;exact bq,by exact aW,⟨⟨bO,cf⟩⟩⟩
 ·have bV:l.length<=i:=aG
  have hr:bW L (l.take i)=bW L l:=by rw [iM bV]
  cbv
  exact ⟨by have bK:=hr;exact bM⟩
structure akc where
 m:ea
 d:Int
structure Ft (m:ea) (d:Int):Prop where
 v:uP m
 cin:∀x∈m.cells,x.ins.length<=1000000
 dr:m.bA.length<=1000000
 eq:qN m=d
@[reducible] noncomputable def OK:Vc.Spec where
 α:=akc
 args x:=[.agg (wa x.m)]
 pre x:=Ft x.m x.d
 res x:=.i .i64 (λ_=>x.d)
noncomputable def akd (n m:Nat):Ctx:=cW n m [] [(119,X9)]
theorem V6 (n m:Nat):CB PP (akd n m):=cZ n m trivial ⟨agy,trivial⟩
theorem V7:cY (PP ()) 46 OK:=by
 refine e6 (V6 0 0) (fo Tryz.func46) (λa=>⟨xu a.m,trivial⟩) (λa=>trivial) ?_
 rintro ⟨⟨mn,mc,md⟩,d⟩ hx
 have hx:Ft ⟨mn,mc,md⟩ d:=hx
 have CD:mc.length<=600:=by have:=hx.v.n6;have:=hx.v.n0;simp only at *;omega
 refine (XO hx.v hx.cin hx.dr).elim λD hF=>?_
 refine hF.elim λW hF=>?_
 have wF:=hF.w0
 have hW:2+mn=W:=hF.w
 have nt:IntKind.i64.wrap (2+mn)=W:=by rw [hW];exact dV (by omega) (by omega)
 have qj:IntKind.i64.wrap (IntKind.i64.wrap (2+mn)+(mc.length:Int))=W+mc.length:=by rw [nt];exact dV (by omega) (by omega)
 have oU:0<=IntKind.i64.wrap (2+mn)/\IntKind.i64.wrap (2+mn)<=IntKind.i64.wrap (IntKind.i64.wrap (2+mn)+(mc.length:Int))/\((8:Nat):Int)*IntKind.i64.wrap (IntKind.i64.wrap (2+mn)+(mc.length:Int))<=281474976710656/\IntKind.i64.wrap (IntKind.i64.wrap (2+mn)+(mc.length:Int))<=9223372036854775807:=by rw [qj,nt];omega
 have hz:List.replicate (IntKind.i64.wrap (2+mn)).toNat 0=D 0:=by rw [nt];exact hF.z
 have e8:∀(i:Nat) (x:Cell),mc[i]?=some x->D i++[1+bW (D i) x.ins]=D (i+1)/\jZ (D i) x.ins/\IntKind.i64.wrap (1+bW (D i) x.ins)=1+bW (D i) x.ins:=hF.grow
 have jF:∀i,i<=mc.length->(D i).length<=600:=hF.len
 have jG:∀i,i<=mc.length->mc.length<=i->jZ (D i) md/\bW (D i) md=d:=λi h1 h2=>by
  have:=hF.fin i h1 h2
  exact ⟨this.1,this.2.trans hx.eq⟩
 clear hF hx
 refine ⟨?_⟩
 cbv
 refine ⟨⟨oU⟩,?_⟩
 refine Sat.dP (V6 0 0) 3 5 [(.c 2 0,1)] (λi:Nat=>[(20,.sl 3 mF (λ_=>mc)),(21,.i .i64 (λ_=>(mc.length:Int))),(22,.i .i64 (λ_=>(i:Int)))]) (λi=>[(1,.dyn 3 1 bJ (λ_=>D i)),(2,.fix 35 [.own 1])]) (λi=>i<=mc.length) (λi=>mc.length - i) 0 (by exact aW) (by have eH:=hz;exact bq) (cI _) ?_
 intro i hi
 have hi:i<=mc.length:=hi
 have dv:=n0 i
 have eW:=eh (i:=i) (by omega)
 have l9:=jF i hi
 have b1:((D i).length+1)*8<=140737488355328:=by omega
 have b2:(D i).length+1<=9223372036854775807:=by omega
 have jG:=jG i hi
 cbv
 refine ⟨λh=>?_,λh=>?_⟩
 ·have bO:i < mc.length:=aG
  have cf:mc.length - (i+1) < mc.length - i:=by omega
  refine (cg bO).elim λx=>?_
  refine x.casesOn λxi xt xr hx=>?_
  refine (⟨_,rfl⟩:∃g,bW (D i) xi=g).elim λg hg=>?_
  have h3:D i++[1+bW (D i) xi]=D (i+1)/\jZ (D i) xi/\IntKind.i64.wrap (1+bW (D i) xi)=1+bW (D i) xi:=e8 i _ hx
  have h4:=h3.2.1
  have h5:=h3.2.2
  have h6:=h3.1
  refine (⟨_,rfl⟩:∃q,1+bW (D i) xi=q).elim λq hq=>?_
  rw [hq] at h6
  have h5:=h5.trans hq
  clear h h3
  cbv
  refine ⟨⟨xi,xt,xr⟩,⟨dv,hx⟩,?_⟩
  cbv
  refine ⟨⟨xi,D i⟩,⟨.inl ⟨by exact a8,rfl⟩,h4⟩,?_⟩
  cbv
  refine ⟨[q],⟨by have bK:=h5;exact bM,b1,b2⟩,?_⟩
  cbv
  exact ⟨i+1,by have bK:=eW;exact bq,by have eH:=h6;exact bq,⟨⟨bO,cf⟩⟩⟩
 ·have bV:mc.length<=i:=aG
  have h1:=(jG bV).1
  have h2:=(jG bV).2
  clear h
  cbv
  refine ⟨⟨md,D i⟩,⟨.inl ⟨by exact a8,rfl⟩,h1⟩,?_⟩
  cbv
  exact ⟨by have bK:=h2;exact bM⟩
theorem ab3 {l m:List (List Int)} (hn:l.Nodup) (hs:∀x∈l,x∈m):l.length<=m.length:=by
 induction l generalizing m with
 | nil=>simp
 | cons a r ih =>
  have lJ:=yR.1 hn
  have ha:=hs a (by simp)
  have h1:=ih (m:=m.erase a) lJ.2 λx hx=>by
   have bR:x≠a:=by rintro rfl;exact lJ.1 hx
   exact (List.mem_erase_of_ne bR).2 (hs x (by simp [hx]))
  rw [List.length_erase_of_mem ha] at h1
  have h2:0 < m.length:=List.length_pos_of_mem ha
  simp only [mY]
  omega
structure Seen (l:List eb) (s:List (List Int)):Prop where
 sub:∀k∈s,k∈l.map Aa
 nd:s.Nodup
theorem Seen.more {l:List eb} {s:List (List Int)} (h:Seen l s) {x:eb} (hx:x∈l) (hn:Aa x∉s):Seen l (s++[Aa x])/\l.length - (s++[Aa x]).length < l.length - s.length:=by
 have h1:Seen l (s++[Aa x]):=⟨λk hk=>by
  rcases eF.1 hk with hk|hk
  ·exact h.sub k hk
  ·rw [qH.1 hk];exact DE hx,Hj.2 ⟨h.nd,by simp,λa ha b hb e=>by simp at hb;subst hb;subst e;exact hn ha⟩⟩
 have h2:=ab3 h1.nd h1.sub
 rw [gn,jQ,y5] at h2
 exact ⟨h1,by rw [gn,y5];omega⟩
structure ake where
 n:Net
 m:ea
theorem Cu.all {p:ef} {st sig out:List Int} (h:Cu p st sig out) (ha:∀c,c < p.blocks.length->St st 2 c):out=NF p:=by
 refine o7 λb=>?_
 unfold NF
 rw [kB]
 by_cases hb:b < p.blocks.length
 ·have hx:p.blocks[b]?=some p.blocks[b]:=eG hb
  rw [Lq hb]
  simp only [yS]
  unfold X1
  rw [hx]
  simp only
  split
  ·rename_i hr;exact (h.cJ b _ hx hr).2.2
  ·rename_i hr;exact (h.done b _ hx (by omega) (ha b hb)).2
 ·rw [oD (by rw [h.ol];omega),oD (by simpa using hb)];rfl
structure Qd (p:ef) (i:Nat) (sig:List Int):Prop where
 le:i<=p.ins.length
 sl:sig.length=p.ins.length+2*p.blocks.length
 Cv:∀s:Nat,s < i->sig[s]?=some (EL p s)
theorem Qd.add {p:ef} {i:Nat} {sig:List Int} (h:Qd p i sig) {w:eb} (hw:p.ins[i]?=some w):Qd p (i+1) (sig.set i (oG [2,w.kind,w.i,w.bit])):=by
 have aP:=(bf.1 hw).1
 refine ⟨aP,by simp [h.sl],λs hs=>?_⟩
 by_cases e:s=i
 ·subst e
  have gz:=h.sl
  rw [jP]
  simp only [if_true]
  rw [if_pos (by omega)]
  unfold EL
  rw [iS,List.getD_eq_getElem?_getD,hw]
  rfl
 ·rw [fS (λh=>e h.symm)];exact h.Cv s (by omega)
structure C3 (p:ef) (i:Nat) (sig out:List Int):Prop where
 le:i<=p.blocks.length
 sl:sig.length=p.ins.length+2*p.blocks.length
 ol:out.length=p.blocks.length
 Cv:∀s:Nat,s < p.ins.length->sig[s]?=some (EL p s)
 cJ:∀(b:Nat) (x:Block),b < i->p.blocks[b]?=some x->0<=x.cJ->sig[p.ins.length+2*b]?=some (oG [3,x.cJ])/\sig[p.ins.length+2*b+1]?=some (oG [1,x.cJ])/\out[b]?=some (oG [1,x.cJ])
theorem C3.skip {p:ef} {i:Nat} {sig out:List Int} (h:C3 p i sig out) {x:Block} (hx:p.blocks[i]?=some x) (hr:x.cJ < 0):C3 p (i+1) sig out :=
 ⟨(
  bf.1 hx).1,h.sl,h.ol,h.Cv,λb y hb hy h0=>by
  by_cases e:b=i
  ·subst e;rw [hx] at hy;cases hy;omega
  ·exact h.cJ b y (by omega) hy h0⟩
theorem C3.add {p:ef} {i:Nat} {sig out:List Int} (h:C3 p i sig out) {x:Block} (hx:p.blocks[i]?=some x) (hr:0<=x.cJ):C3 p (i+1) ((sig.set (p.ins.length+2*i) (oG [3,x.cJ])).set (p.ins.length+2*i+1) (oG [1,x.cJ])) (out.set i (oG [1,x.cJ])):=by
 have aP:=(bf.1 hx).1
 have gz:=h.sl
 have FG:=h.ol
 refine ⟨aP,by simp [gz],by simp [FG],λs hs=>?_,λb y hb hy h0=>?_⟩
 ·rw [fS (by omega),fS (by omega)];exact h.Cv s hs
 ·by_cases e:b=i
  ·subst e;rw [hx] at hy;cases hy
   refine ⟨?_,?_,?_⟩
   ·rw [fS (by omega),jP];simp;omega
   ·rw [jP];simp;omega
   ·rw [jP];simp;omega
  ·rw [fS (by omega),fS (by omega),fS (by omega),fS (by omega),fS (by omega)]
   exact h.cJ b y (by omega) hy h0
open Classical in
noncomputable def aq0 (y:ake):ef × Int:=if (y.n.ins.length:Int)=y.m.n/\y.n.outs.length=y.m.bA.length then (ahO y.n y.m,0) else (⟨[],[],[],[]⟩,270)
theorem acZ {P:Unit->Program} {f:FuncId} {S:pc} {T:Vc.Spec} {fn:Func} (I:sB P f S) (F:kF (P ()) f fn) (c:T.α->S.α) (ha:∀a,T.args a=S.args (c a)) (hp:∀a,T.pre a->S.pre (c a)) (hr:∀a y,T.pre a->S.post (c a) y->S.res (c a) y=T.res a) (Pv:∀a,LF (T.res a)) (su:T.fr=false):cY (P ()) f T where
 fn:=⟨fn,F⟩
 lf:=λa=>by rw [ha];exact I.lf _
 lr:=Pv
 fresh:=λh=>by rw [su] at h;cases h
 run:=λa dR H F' w vals hH hF iX=>by
  rw [ha] at iX
  refine (I.run (c a) (hp a dR) H F' w vals hH hF iX).mono ?_
  rintro e w' ⟨y,v,H',h1,h2,h3,h4,h5,h6,h7,h8⟩
  rw [hr a y dR h1] at h7
  exact ⟨v,H',h2,h3,h4,h5,h6,h7,h8⟩
def nB:Net:=⟨[⟨3,0,0⟩,⟨3,1,0⟩,⟨3,2,0⟩,⟨3,3,0⟩],[⟨2,2,3,0,0⟩,⟨2,4,5,0,0⟩,⟨3,6,7,0,0⟩],[⟨5,0,0⟩],[8]⟩
def nC:Net:=⟨[⟨3,0,0⟩,⟨3,1,0⟩,⟨3,2,0⟩,⟨3,3,0⟩,⟨3,4,0⟩],[⟨2,2,3,0,0⟩,⟨2,4,5,0,0⟩,⟨3,7,8,0,0⟩,⟨4,9,6,0,0⟩],[⟨5,0,0⟩],[10]⟩
def sK:ea:=⟨4,[⟨[2,3,4,5],63624,-1⟩],[6]⟩
def Qe:kA:=⟨[8],[[2,3,4,5]]⟩
def Qf:ea:=⟨5,[⟨[2,3,4,5],63624,-1⟩,⟨[6,7],6,-1⟩],[8]⟩
def cX2:kA:=⟨[9,10],[[2,3,4,5],[6,9]]⟩
theorem AO {I i:Nat} {o a b c n:Int} (h:(1<=o/\o<=7)/\(0<=a/\a < 2+(I:Int)+i)/\(0<=b/\b < 2+(I:Int)+i)/\(0<=c/\c < 2+(I:Int)+i)/\(0<=n/\n < 64)):FW (2+(I:Int)+i) ⟨o,a,b,c,n⟩:=⟨h.1,h.2.1,h.2.2.1,h.2.2.2.1,h.2.2.2.2⟩
theorem gX1:cC nB.ins.length nB.cq:=⟨by decide,λi g h=>by
 rcases i with _|_|_|i
 ·cases h;exact AO (I:=4) (i:=0) (by decide)
 ·cases h;exact AO (I:=4) (i:=1) (by decide)
 ·cases h;exact AO (I:=4) (i:=2) (by decide)
 ·simp [nB] at h⟩
theorem gX2:cC nC.ins.length nC.cq:=⟨by decide,λi g h=>by
 rcases i with _|_|_|_|i
 ·cases h;exact AO (I:=5) (i:=0) (by decide)
 ·cases h;exact AO (I:=5) (i:=1) (by decide)
 ·cases h;exact AO (I:=5) (i:=2) (by decide)
 ·cases h;exact AO (I:=5) (i:=3) (by decide)
 ·simp [nC] at h⟩
theorem OL:Ab nB sK Qe 0:=⟨gX1,by decide,by decide,by kernel_rfl⟩
theorem Ya:Ab nC Qf cX2 0:=⟨gX2,by decide,by decide,by kernel_rfl⟩
def Km:dW:=(iZ 5 nC.cq).getD ⟨[],[],[]⟩
theorem akh:cC nC.ins.length nC.cq/\iZ nC.ins.length nC.cq=some Km:=⟨gX2,by kernel_rfl⟩
theorem agz:Km.labels=[0,0,0,0,0,0,0,1,1,1,2]:=by kernel_rfl
theorem dX1:qN sK=1:=by kernel_rfl
theorem dX2:qN Qf=2:=by kernel_rfl
theorem vX1:tD sK=true:=by kernel_rfl
theorem vX0:tD ⟨0,[],[2]⟩=false:=by kernel_rfl
theorem Kn:kG [] [true,true,false,true] sK.cells=[false,true,true,true,false,true,true]:=by kernel_rfl
theorem kX0:wb (BM nB.ins.length nB.cq nB.bA sK ⟨[],[]⟩)=260:=by kernel_rfl
def qT (b:Bool):Net:=if b then nC else nB
@[reducible] noncomputable def ahT:pc where
 α:=Bool
 args b:=[.b (λ_=>b)]
 pre b:=True
 β:=Net
 post b y:=y=qT b
 res b y:=.agg (oj y)
noncomputable def aki (n m:Nat):Ctx:=cW n m [] [] [] [] [2] [45]
theorem agA (n m:Nat):CB PP (aki n m):=cZ n m trivial trivial
noncomputable def cTw (n m:Nat):Ctx:=cW n m [] []
theorem ahU (n m:Nat):CB PP (cTw n m):=cZ n m trivial trivial
theorem aeb:sB PP 103 ahT:=by
 refine Vn (agA 0 0) (fo Tryz.func103) (λa=>⟨trivial,trivial⟩) (λa y=>rQ y) ?_
 intro b hb
 clear hb
 have h1:b=false->nB=qT b:=λh=>by rw [h];rfl
 have h2:b=true->nC=qT b:=λh=>by rw [h];rfl
 refine ⟨?_⟩
 cbv
 refine ⟨[⟨3,0,0⟩,⟨3,1,0⟩,⟨3,2,0⟩,⟨3,3,0⟩],⟨by exact e9,rfl⟩,?_⟩
 cbv
 refine ⟨[⟨5,0,0⟩],⟨by exact e9,rfl⟩,?_⟩
 cbv
 refine Sat.j8 (ahU 0 0) ?_
 cbv
 refine ⟨λh=>?_,λh=>?_⟩
 ·have e:=h2 h.out
  clear h
  cbv
  refine ⟨[⟨3,4,0⟩],⟨by exact e9,rfl⟩,?_⟩
  cbv
  refine ⟨[⟨3,4,0⟩],⟨by exact a8,by decide,by decide⟩,?_⟩
  cbv
  exact .mk' nC ⟨by exact a8⟩ e
 ·have e:=h1 h.out
  clear h
  cbv
  exact .mk' nB ⟨by exact a8⟩ e
@[reducible] noncomputable def W1:Vc.Spec where
 α:=Bool
 args b:=[.b (λ_=>b)]
 pre b:=True
 res b:=.agg (oj (qT b))
theorem afh:cY (PP ()) 103 W1:=acZ aeb (UE Tryz.func103 (by kernel_rfl)) (λa=>a) (λa=>rfl) (λa h=>trivial) (λa y _ hy=>by
 show SV.agg (oj y)=SV.agg (oj (qT a))
 rw [hy]) (λa=>rQ _) rfl
end Go.Proofs.Pk
