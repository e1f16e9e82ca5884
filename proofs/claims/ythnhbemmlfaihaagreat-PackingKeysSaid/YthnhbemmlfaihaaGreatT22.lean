import Derived.Test.YthnhbemmlfaihaaGreatT12
import Derived.Test.YthnhbemmlfaihaaGreatT21
set_option linter.unusedVariables false
set_option linter.unusedSimpArgs false
set_option maxRecDepth 10000
set_option maxHeartbeats 64000000
namespace Go.Proofs.Pk
open Go Go.Vc
theorem kQ {S:List SV} {r:Bool} {P:Unit->Program} {c:Code} {s:Vc.St} {k:Exit->Vc.St->Prop} (n:Nat) (s':Vc.St) (h0:ra (s.cut n).t s'.t) (qp:nQ (s.cut n).b s'.b)
 (h:Sat S r P c s' k) (hn:nh (Nat.ble n) S=false:=by rfl):Sat S r P c s k:=⟨λF R f η H a w hS D=>h.out F R f η H a w hS ((D.cut n (by rw [hS];exact hn)).weaken ⟨h0,qp⟩)⟩
theorem Co {G:Prop} (T:Code->(Exit->Vc.St->Prop)->Prop) {c:Code} {k:Exit->Vc.St->Prop} (main:T c k->G) (tail:T c k):G:=main tail
theorem Uj {x:iz} {u:Int} {n:Nat} (h0:0<=u) (h1:u<=1000) (hw:1<=x.w/\x.w<=8):WT x.sc (n+1) x.w (vj ⟨x.aN,x.aZ,x.data,x.w⟩ u):=by
 rcases abU (x:=⟨x.aN,x.aZ,x.data,x.w⟩) h0 h1 with ⟨k,e⟩|h
 ·rw [e];exact .const hw
 ·rcases aaL h with ⟨i,hi,e⟩|⟨hd,i,hi,e⟩
  ·rw [e];exact .bh i hi
  ·rw [e];exact .data i hd hi
theorem SY {x:vp} {u:Int} (h0:0<=u) (h1:u<=1000):(vj x u).args=[]:=by
 rcases abU (x:=x) h0 h1 with ⟨k,e⟩|h
 ·rw [e];rfl
 ·rcases aaL h with ⟨i,hi,e⟩|⟨hd,i,hi,e⟩<;>rw [e]<;>rfl
theorem aeX {B j:Int} (hB:0<=B/\B<=255) (h2:¬B % 14 < 2) (h3:B % 14≠2) (h4:B % 14≠3) (hj:j=B % 14 - 4) :
  ∃o:Int,0<=j/\([2,3,4,5,6,7,10,8,9,11]:List Int)[j.toNat]?=some o/\2<=o/\o<=11:=by
 have:j=0\/j=1\/j=2\/j=3\/j=4\/j=5\/j=6\/j=7\/j=8\/j=9:=by omega
 rcases this with h|h|h|h|h|h|h|h|h|h<;>rw [h]<;>exact ⟨_,by decide,rfl,by decide,by decide⟩
structure kG (k:Nat) (sc:Sc) (w op:Int) (ws:List Int):Prop where
 ex:∀es,nR sc (k+1) ws es->WT sc (k+2) w (.mk op 0 0 es)
 len:ws.length<=3
 wid:∀v∈ws,1<=v/\v+k<=8
theorem ahI {sc:Sc} {k:Nat} {v:Int}:∀{es:List Expr},nR sc k [v] es->∃a,es=[a]/\WT sc k v a
 | [],h=>h.elim
 | [a],h=>⟨a,rfl,h.1⟩
 | _ :: _ :: _,h=>h.2.elim
theorem QD {sc:Sc} {k:Nat} {u v:Int}:∀{es:List Expr},nR sc k [u,v] es->∃a b,es=[a,b]/\WT sc k u a/\WT sc k v b
 | [],h=>h.elim
 | a :: es,h=>by obtain ⟨b,rfl,hb⟩:=ahI h.2;exact ⟨a,b,rfl,h.1,hb⟩
theorem auq {sc:Sc} {k:Nat} {t u v:Int}:∀{es:List Expr},nR sc k [t,u,v] es->∃a b c,es=[a,b,c]/\WT sc k t a/\WT sc k u b/\WT sc k v c
 | [],h=>h.elim
 | a :: es,h=>by obtain ⟨b,c,rfl,hb,hc⟩:=QD h.2;exact ⟨a,b,c,rfl,h.1,hb,hc⟩
theorem kG.not {k:Nat} {sc:Sc} {w:Int} (hw:1<=w/\w+k<=8):kG k sc w 2 [w]:=⟨λes h=>by obtain ⟨a,rfl,ha⟩:=ahI h;exact .not ha,by simp,λv hv=>by simp at hv;rw [hv];exact hw⟩
theorem kG.two {k:Nat} {sc:Sc} {w op:Int} (h3:3<=op) (h7:op<=7) (hw:1<=w/\w+k<=8):kG k sc w op [w,w]:=⟨λes h=>by obtain ⟨a,b,rfl,ha,hb⟩:=QD h;exact .two h3 h7 ha hb,by simp,λv hv=>by simp at hv;rw [hv];exact hw⟩
theorem kG.cmp {k:Nat} {sc:Sc} {v op:Int} (h8:8<=op) (h9:op<=9) (h1:1<=v) (h2:v+k<=8):kG k sc 1 op [v,v]:=⟨λes h=>by obtain ⟨a,b,rfl,ha,hb⟩:=QD h;exact .cmp h8 h9 ha hb,by simp,λv hv=>by simp at hv;rw [hv];exact ⟨h1,h2⟩⟩
theorem kG.tG {k:Nat} {sc:Sc} {w:Int} (hw:1<=w/\w+k<=8):kG k sc w 10 [1,w,w]:=⟨λes h=>by obtain ⟨a,b,c,rfl,ha,hb,hc⟩:=auq h;exact .tG ha hb hc,by simp,λv hv=>by
 simp at hv
 rcases hv with rfl|rfl
 ·omega
 ·exact hw⟩
theorem kG.cat {k:Nat} {sc:Sc} {v w:Int} (BH:w=v+1) (cv:1<=w/\w<=8) (h1:1<=v) (h2:v+k<=7):kG k sc w 11 [v,1]:=⟨λes h=>by obtain ⟨a,b,rfl,ha,hb⟩:=QD h;exact .cat BH cv ha hb,by simp,λv hv=>by
 simp at hv
 rcases hv with rfl|rfl
 ·omega
 ·omega⟩
theorem nR.add {sc:Sc} {k:Nat} {v:Int} {e:Expr}:∀{ws:List Int} {es:List Expr} {i:Nat},nR sc k (ws.take i) es->ws[i]?=some v->WT sc k v e->nR sc k (ws.take (i+1)) (es++[e])
 | [],es,i,_,h,_=>by simp at h
 | x :: ws,[],0,_,hv,he=>by simp at hv;subst hv;exact ⟨he,by simp [nR]⟩
 | x :: ws,[],i+1,h,_,_=>h.elim
 | x :: ws,y :: es,0,h,_,_=>h.elim
 | x :: ws,y :: es,i+1,h,hv,he=>⟨h.1,nR.add (ws:=ws) h.2 (by simpa using hv) he⟩
structure TL where
 i:Nat
 q:Nat
 l:List Expr
structure Ik (k:Nat) (sc:Sc) (p:Nat) (ws:List Int) (x:TL):Prop where
 le:x.i<=ws.length
 ok:nR sc (k+1) (ws.take x.i) x.l
 lo:p+1<=x.q
 hi:x.q<=p+1+KT k*x.i
noncomputable def pB (n m:Nat) (x:iz) (op:Int) (ws:List Int):Vc.St :=
 ⟨[.any,.any,.any,.ptr 1 0,.ptr 2 0,.ptr 3 0,.ptr 4 0,.i .i64 (λ_=>x.w),.i .i64 (λ_=>((n+1:Nat):Int)),.any,.any,.ptr 6 0,.sl 1 bK (λ_=>ws),.ic .i64 0]++x4 109,
  [.dyn 163 27 (sF m) (λ_=>x.bf),.fix 142 [.sl 1 iN (λ_=>x.b),.i .i64 (λ_=>((x.p+1:Nat):Int))],
   .fix 140 [.sl 1 bK (λ_=>x.aN),.sl 1 bK (λ_=>x.aZ),.own 0,.b (λ_=>x.data)],.fix 129 [.i .i64 (λ_=>x.w),.i .i64 (λ_=>((n+1:Nat):Int))],
   .fix 151 [.ic .i64 0,.str (λ_=>es),.ic .i64 0,.str (λ_=>es),.ic .i64 0,.str (λ_=>es),.dp,.dp,.ic .i64 0],.un,
   .fix 149 [.i .i64 (λ_=>op),.str (λ_=>es),.ic .i64 0,.str (λ_=>es),.ic .i64 0,.str (λ_=>es),.dp]]⟩
noncomputable def cTy (n m:Nat):Ctx:=fy n m [(70,Tryz.f70),(156,Tryz.f156)] [(71,PS),(72,Ry),(155,af3)] [70,156]
theorem KZ (n m:Nat):CB PP (cTy n m):=fF n m ⟨fo Tryz.func70,fo Tryz.func156,trivial⟩ ⟨UJ,VR,apB,trivial⟩
theorem apC (m:Nat):iK PP 70 (zh 0 m):=by
 refine mP (KZ 0 m) (fo Tryz.func70) (λa y=>rfl) (λa=>⟨rfl,rfl⟩) .nil ?_
 rintro ⟨bs,p,aN,aZ,bf,data,w⟩ hx
 obtain ⟨eQ,hp,hr,ht,hm,hn,hw⟩:QC 0 ⟨bs,p,aN,aZ,bf,data,w⟩:=hx
 simp only at eQ hp hr ht hm hw
 have hw:1<=w/\w+0<=8:=hw
 have cv:1<=w/\w<=8:=by omega
 have MB:KT 0=1:=rfl
 have hB:=Kd eQ p
 have BI:IntKind.i64.wrap ((eu bs p).tdiv 14)=eu bs p / 14:=xB hB.1 (by omega) (by decide)
 have sP:(eu bs p).tmod 14=eu bs p % 14:=kA hB.1
 obtain ⟨u,hu⟩:∃u,u=IntKind.i64.wrap ((eu bs p).tdiv 14):=⟨_,rfl⟩
 have qt:0<=u/\u<=255:=by rw [hu,BI];omega
 obtain ⟨e0,qv⟩:∃e,e=vj ⟨aN,aZ,data,w⟩ u:=⟨_,rfl⟩
 have dv:l6 0 ⟨bs,p,aN,aZ,bf,data,w⟩ ⟨e0,p+1⟩:=⟨by rw [qv];exact Uj (x:=⟨bs,p,aN,aZ,bf,data,w⟩) qt.1 (by omega) cv,B9 _,by show p+1<=p+KT 0;omega⟩
 have j4:p<=1000000000:=by omega
 have zZ:1<=1000000000:=by decide
 have KH:e0.args=[]:=by rw [qv];exact SY qt.1 (by omega)
 refine ⟨?_⟩
 cbv
 refine ⟨⟨bs,p⟩,⟨by exact bQ,⟨eQ,j4⟩⟩,?_⟩
 cbv
 refine ⟨⟨bs,p,1⟩,⟨by exact bQ,⟨j4,zZ⟩⟩,?_⟩
 cbv
 refine ⟨⟨by decide⟩,?_⟩
 cbv
 refine ⟨λh=>?_,λh=>?_⟩
 ·cbv
  refine ⟨⟨by decide⟩,?_⟩
  cbv
  refine ⟨(⟨aN,aZ,data,w⟩,u),⟨.inr (by have bm:=hu.symm;exact cQ),⟨hr,ht,by show 0<=w;omega,cv.2,qt.1,by show u<=1000;omega⟩⟩,?_⟩
  cbv
  refine ⟨⟨e0,p+1⟩,[],[],?_,by exact ao,⟨dv⟩⟩
  cbv
  exact ⟨by ((repeat' first|exact dW.nil|exact Le.refl _|refine dW.cons ?_ ?_|exact Le.ic rfl|exact Le.bc rfl|exact Le.i rfl|exact Le.b rfl|exact Le.sl rfl|exact Le.mp rfl|exact Le.iB rfl|exact Le.sr rfl|refine Le.dp rfl (λ_=>?_)|refine Le.eL rfl (λ_ _=>rfl) (λ_=>?_) ?_|refine Le.agg ?_|refine Le.dH ?_|refine Le.fn ?_ ?_|refine Le.dF ?_|exact trivial|refine And.intro ?_ ?_|refine λ_=>?_|exact Le.any _))<;>first|exact .i (congrArg Expr.op qv.symm)|exact .i (congrArg Expr.k qv.symm)|exact .i (congrArg Expr.w qv.symm)|exact .dp KH (λy=>(oG _ y).1),trivial⟩
 ·have h':cU ((0+1:Nat):Int) 1=false:=h.out
  cases h'
theorem apD (m:Nat) (ih:iK PP 70 (zh 0 m)) (MC:iK PP 156 (OA 0 m)):iK PP 70 (zh 1 m):=by
 refine mP (KZ 1 m) (fo Tryz.func70) (λa y=>rfl) (λa=>⟨rfl,rfl⟩) .nil ?_
 rintro ⟨bs,p,aN,aZ,bf,data,w⟩ hx
 obtain ⟨eQ,hp,hr,ht,hm,hn,hw⟩:QC 1 ⟨bs,p,aN,aZ,bf,data,w⟩:=hx
 simp only at eQ hp hr ht hm hw
 have hw:1<=w/\w+1<=8:=hw
 have cv:1<=w/\w<=8:=by omega
 have MB:KT 1=4:=rfl
 have hB:=Kd eQ p
 have BI:IntKind.i64.wrap ((eu bs p).tdiv 14)=eu bs p / 14:=xB hB.1 (by omega) (by decide)
 have sP:(eu bs p).tmod 14=eu bs p % 14:=kA hB.1
 obtain ⟨u,hu⟩:∃u,u=IntKind.i64.wrap ((eu bs p).tdiv 14):=⟨_,rfl⟩
 have qt:0<=u/\u<=255:=by rw [hu,BI];omega
 obtain ⟨e0,qv⟩:∃e,e=vj ⟨aN,aZ,data,w⟩ u:=⟨_,rfl⟩
 have dv:l6 1 ⟨bs,p,aN,aZ,bf,data,w⟩ ⟨e0,p+1⟩:=⟨by rw [qv];exact Uj (x:=⟨bs,p,aN,aZ,bf,data,w⟩) qt.1 (by omega) cv,B9 _,by show p+1<=p+KT 1;omega⟩
 have j4:p<=1000000000:=by omega
 have zZ:1<=1000000000:=by decide
 have KH:e0.args=[]:=by rw [qv];exact SY qt.1 (by omega)
 refine ⟨?_⟩
 cbv
 refine ⟨⟨bs,p⟩,⟨by exact bQ,⟨eQ,j4⟩⟩,?_⟩
 cbv
 refine ⟨⟨bs,p,1⟩,⟨by exact bQ,⟨j4,zZ⟩⟩,?_⟩
 cbv
 refine ⟨⟨by decide⟩,?_⟩
 cbv
 refine ⟨λh=>?_,λh=>?_⟩
 ·have h':cU ((1+1:Nat):Int) 1=true:=h.out
  exact absurd h' (by decide)
 have yn:p+1+KT 0<=1000000:=by have:KT 0=1:=rfl;omega
 have dA:1<=w/\w+0+1<=8:=by omega
 have qw:1<=w/\w+0<=8:=by omega
 have tB:p+1+KT 0<=p+KT 1:=by have:KT 0=1:=rfl;omega
 cbv
 refine ⟨λh=>?_,λh=>?_⟩
 ·cbv
  refine ⟨⟨by decide⟩,?_⟩
  cbv
  refine ⟨(⟨aN,aZ,data,w⟩,u),⟨.inr (by have bm:=hu.symm;exact cQ),⟨hr,ht,by show 0<=w;omega,cv.2,qt.1,by show u<=1000;omega⟩⟩,?_⟩
  cbv
  refine ⟨⟨e0,p+1⟩,[],[],?_,by exact ao,⟨dv⟩⟩
  cbv
  exact ⟨by ((repeat' first|exact dW.nil|exact Le.refl _|refine dW.cons ?_ ?_|exact Le.ic rfl|exact Le.bc rfl|exact Le.i rfl|exact Le.b rfl|exact Le.sl rfl|exact Le.mp rfl|exact Le.iB rfl|exact Le.sr rfl|refine Le.dp rfl (λ_=>?_)|refine Le.eL rfl (λ_ _=>rfl) (λ_=>?_) ?_|refine Le.agg ?_|refine Le.dH ?_|refine Le.fn ?_ ?_|refine Le.dF ?_|exact trivial|refine And.intro ?_ ?_|refine λ_=>?_|exact Le.any _))<;>first|exact .i (congrArg Expr.op qv.symm)|exact .i (congrArg Expr.k qv.symm)|exact .i (congrArg Expr.w qv.symm)|exact .dp KH (λy=>(oG _ y).1),trivial⟩
 have mO:¬eu bs p % 14 < 2:=by have h':aS ((eu bs p).tmod 14) 2=false:=h.out;rw [sP] at h';simpa [aS] using h'
 cbv
 refine ⟨λh=>?_,λh=>?_⟩
 ·cbv
  refine ⟨⟨by decide⟩,?_⟩
  cbv
  refine bV.jM MC (λa y=>pq 1 a.1 y) (⟨bs,p+1,aN,aZ,bf,data,w⟩,u) [0] rfl (by have bm:=hu.symm;exact cQ) (by exact ao) ⟨⟨eQ,yn,hr,ht,hm,by decide,dA,qt⟩⟩ λy hy=>?_
  have hy:vk 0 ⟨bs,p+1,aN,aZ,bf,data,w⟩ y:=hy.out
  have bW:l6 1 ⟨bs,p,aN,aZ,bf,data,w⟩ y:=⟨hy.e,JN hy.lo,v9 hy.hi tB⟩
  cbv
  refine ⟨y,[],[],?_,by exact ao,⟨bW⟩⟩
  cbv
  exact ⟨by exact aL,trivial⟩
 have nU:eu bs p % 14≠2:=by have h':aV ((eu bs p).tmod 14) 2=false:=h.out;rw [sP] at h';simpa [aV] using h'
 cbv
 refine ⟨λh=>?_,λh=>?_⟩
 ·cbv
  refine ⟨⟨by decide⟩,?_⟩
  cbv
  refine bV.jM MC (λa y=>pq 1 a.1 y) (⟨bs,p+1,aN,aZ,bf,data,w⟩,u) [0] rfl (by have bm:=hu.symm;exact cQ) (by exact ao) ⟨⟨eQ,yn,hr,ht,hm,by decide,dA,qt⟩⟩ λy hy=>?_
  have hy:vk 0 ⟨bs,p+1,aN,aZ,bf,data,w⟩ y:=hy.out
  have bW:l6 1 ⟨bs,p,aN,aZ,bf,data,w⟩ y:=⟨hy.e,JN hy.lo,v9 hy.hi tB⟩
  cbv
  refine ⟨y,[],[],?_,by exact ao,⟨bW⟩⟩
  cbv
  exact ⟨by exact aL,trivial⟩
 have RA:eu bs p % 14≠3:=by have h':aV ((eu bs p).tmod 14) 3=false:=h.out;rw [sP] at h';simpa [aV] using h'
 have gE:IntKind.i64.wrap ((eu bs p).tmod 14 - 4)=eu bs p % 14 - 4:=by rw [sP,cD (by omega) (by omega)]
 refine (aeX hB mO nU RA gE).elim λfA fg=>?_
 cbv
 refine ⟨(fA,[2,3,4,5,6,7,10,8,9,11]),⟨by exact aL,rfl,fg.1,fg.2.1⟩,?_⟩
 apply Co (λc k=>∀(op:Int) (ws:List Int),kG 0 (iz.sc ⟨bs,p,aN,aZ,bf,data,w⟩) w op ws->Sat [.own 0] false PP c (pB 1 m ⟨bs,p,aN,aZ,bf,data,w⟩ op ws) k)
 ·intro tail
  cbv
  refine ⟨λh=>?_,λh=>?_⟩
  ·have ho:fA=2:=bG
   refine (⟨_,rfl⟩:∃ws:List Int,ws=[w]).elim λws dA=>?_
   have hO:=kG.not (k:=0) (sc:=iz.sc ⟨bs,p,aN,aZ,bf,data,w⟩) qw
   rw [<-ho,<-dA] at hO
   cbv
   exact kQ 7 (pB 1 m ⟨bs,p,aN,aZ,bf,data,w⟩ fA ws) (by subst dA;exact ao) (by exact ao) (tail fA ws hO)
  have j5:fA≠2:=bG
  cbv
  refine ⟨λh=>?_,λh=>?_⟩
  ·have ho:fA=10:=bG
   refine (⟨_,rfl⟩:∃ws:List Int,ws=[1,w,w]).elim λws dA=>?_
   have hO:=kG.tG (k:=0) (sc:=iz.sc ⟨bs,p,aN,aZ,bf,data,w⟩) qw
   rw [<-ho,<-dA] at hO
   cbv
   exact kQ 7 (pB 1 m ⟨bs,p,aN,aZ,bf,data,w⟩ fA ws) (by subst dA;exact ao) (by exact ao) (tail fA ws hO)
  have aur:fA≠10:=bG
  cbv
  refine ⟨λh=>?_,λh=>?_⟩
  ·have ho:fA=8:=bG
   cbv
   refine ⟨λh=>?_,λh=>?_⟩
   ·refine (⟨_,rfl⟩:∃ws:List Int,ws=[w,w]).elim λws dA=>?_
    have hO:=kG.two (k:=0) (sc:=iz.sc ⟨bs,p,aN,aZ,bf,data,w⟩) (op:=5) (by decide) (by decide) qw
    rw [<-dA] at hO
    cbv
    exact kQ 7 (pB 1 m ⟨bs,p,aN,aZ,bf,data,w⟩ 5 ws) (by subst dA;exact ao) (by exact ao) (tail 5 ws hO)
   ·have fH:w=1:=by
      have h':aS 1 w=false:=h.out;have:¬1 < w:=by simpa [aS] using h'
      omega
    refine (⟨_,rfl⟩:∃v:Int,v=IntKind.i64.wrap (1+(IntKind.i64.wrap ((eu bs p).tdiv 14)).tmod 3)).elim λv hv=>?_
    have w8:1<=v/\v<=3:=by
     have:=kA (k:=3) (show 0<=eu bs p / 14 by omega)
     rw [hv,BI,this,cD (by omega) (by omega)];omega
    refine (⟨_,rfl⟩:∃ws:List Int,ws=[v,v]).elim λws dA=>?_
    have hO:=kG.cmp (k:=0) (sc:=iz.sc ⟨bs,p,aN,aZ,bf,data,w⟩) (op:=fA) (by omega) (by omega) w8.1 (by omega)
    rw [<-dA,<-fH] at hO
    cbv
    refine ⟨⟨by decide⟩,?_⟩
    cbv
    refine ⟨⟨by decide⟩,?_⟩
    cbv
    refine ⟨⟨by decide⟩,?_⟩
    cbv
    refine ⟨⟨by decide⟩,?_⟩
    cbv
    exact kQ 7 (pB 1 m ⟨bs,p,aN,aZ,bf,data,w⟩ fA ws) (by subst dA;have bm:=hv.symm;exact bI) (by exact ao) (tail fA ws hO)
  have ho8:fA≠8:=bG
  cbv
  refine ⟨λh=>?_,λh=>?_⟩
  ·have ho:fA=9:=bG
   cbv
   refine ⟨λh=>?_,λh=>?_⟩
   ·refine (⟨_,rfl⟩:∃ws:List Int,ws=[w,w]).elim λws dA=>?_
    have hO:=kG.two (k:=0) (sc:=iz.sc ⟨bs,p,aN,aZ,bf,data,w⟩) (op:=5) (by decide) (by decide) qw
    rw [<-dA] at hO
    cbv
    exact kQ 7 (pB 1 m ⟨bs,p,aN,aZ,bf,data,w⟩ 5 ws) (by subst dA;exact ao) (by exact ao) (tail 5 ws hO)
   ·have fH:w=1:=by
      have h':aS 1 w=false:=h.out;have:¬1 < w:=by simpa [aS] using h'
      omega
    refine (⟨_,rfl⟩:∃v:Int,v=IntKind.i64.wrap (1+(IntKind.i64.wrap ((eu bs p).tdiv 14)).tmod 3)).elim λv hv=>?_
    have w8:1<=v/\v<=3:=by
     have:=kA (k:=3) (show 0<=eu bs p / 14 by omega)
     rw [hv,BI,this,cD (by omega) (by omega)];omega
    refine (⟨_,rfl⟩:∃ws:List Int,ws=[v,v]).elim λws dA=>?_
    have hO:=kG.cmp (k:=0) (sc:=iz.sc ⟨bs,p,aN,aZ,bf,data,w⟩) (op:=fA) (by omega) (by omega) w8.1 (by omega)
    rw [<-dA,<-fH] at hO
    cbv
    refine ⟨⟨by decide⟩,?_⟩
    cbv
    refine ⟨⟨by decide⟩,?_⟩
    cbv
    refine ⟨⟨by decide⟩,?_⟩
    cbv
    refine ⟨⟨by decide⟩,?_⟩
    cbv
    exact kQ 7 (pB 1 m ⟨bs,p,aN,aZ,bf,data,w⟩ fA ws) (by subst dA;have bm:=hv.symm;exact bI) (by exact ao) (tail fA ws hO)
  have ho9:fA≠9:=bG
  cbv
  refine ⟨λh=>?_,λh=>?_⟩
  ·have ho:fA=11:=bG
   cbv
   refine ⟨λh=>?_,λh=>?_⟩
   ·refine (⟨_,rfl⟩:∃ws:List Int,ws=[w,w]).elim λws dA=>?_
    have hO:=kG.two (k:=0) (sc:=iz.sc ⟨bs,p,aN,aZ,bf,data,w⟩) (op:=3) (by decide) (by decide) qw
    rw [<-dA] at hO
    cbv
    exact kQ 7 (pB 1 m ⟨bs,p,aN,aZ,bf,data,w⟩ 3 ws) (by subst dA;exact ao) (by exact ao) (tail 3 ws hO)
   ·have fH:w≠1:=bG
    refine (⟨_,rfl⟩:∃v:Int,v=IntKind.i64.wrap (w - 1)).elim λv hv=>?_
    have BH:w=v+1:=by rw [hv,cD (by omega) (by omega)];omega
    refine (⟨_,rfl⟩:∃ws:List Int,ws=[v,1]).elim λws dA=>?_
    have hO:=kG.cat (k:=0) (sc:=iz.sc ⟨bs,p,aN,aZ,bf,data,w⟩) BH cv (by omega) (by omega)
    rw [<-ho,<-dA] at hO
    cbv
    exact kQ 7 (pB 1 m ⟨bs,p,aN,aZ,bf,data,w⟩ fA ws) (by subst dA;have bm:=hv.symm;exact bI) (by exact ao) (tail fA ws hO)
  ·have aus:fA≠11:=bG
   refine (⟨_,rfl⟩:∃ws:List Int,ws=[w,w]).elim λws dA=>?_
   have hO:=kG.two (k:=0) (sc:=iz.sc ⟨bs,p,aN,aZ,bf,data,w⟩) (op:=fA) (by omega) (by omega) qw
   rw [<-dA] at hO
   cbv
   exact kQ 7 (pB 1 m ⟨bs,p,aN,aZ,bf,data,w⟩ fA ws) (by subst dA;exact ao) (by exact ao) (tail fA ws hO)
 ·intro op ws hO
  have DE:=hO.len
  have Xa:=hO.wid
  have vG:IntKind.i64.wrap (((1+1:Nat):Int) - 1)=((0+1:Nat):Int):=by decide
  have MD:KT 0=1:=rfl
  refine Sat.iH 6 6 149 7 (Lt 0) (oG _) rfl rfl ?_
  refine Sat.cd (KZ 1 m) 8 13 [(.c 6 6,7)] (λx:TL=>[(13,.i .i64 λ_=>(x.i:Int))])
   (λx=>[(1,.fix 142 [.sl 1 iN (λ_=>bs),.i .i64 (λ_=>(x.q:Int))]),(6,.fix 149 [.i .i64 (λ_=>op),.str (λ_=>es),.ic .i64 0,.str (λ_=>es),.ic .i64 0,.str (λ_=>es),.own 7]),(7,.dyn 149 7 (cE 0) λ_=>x.l)])
   (λx=>Ik 0 (iz.sc ⟨bs,p,aN,aZ,bf,data,w⟩) p ws x) (λx=>ws.length - x.i) ⟨0,p+1,[]⟩ (by exact ao) (by exact ao) ⟨cL _,trivial,cR _,cR _⟩ ?_
  rintro ⟨i,q,l⟩ hJ
  have hJ:Ik 0 (iz.sc ⟨bs,p,aN,aZ,bf,data,w⟩) p ws ⟨i,q,l⟩:=hJ
  obtain ⟨hi,hl,oW,ME⟩:=hJ
  simp only at hi hl oW ME
  have mq:l.length<=3:=by have:=hl.len;rw [kB] at this;omega
  have h0:=n0 i
  have h1:=cj (i:=i) (by omega)
  cbv
  refine ⟨λh=>?_,λh=>?_⟩
  ·(have h:=h.out;simp (disch:=exact aU) only [hS] at h)
   have bq:i < ws.length:=by exact aU
   have a7:ws.length - (i+1) < ws.length - i:=by omega
   obtain ⟨v,hv⟩:=bB bq
   have BH:=Xa v (cb hv)
   have hmul:=Oe (KT 0) i 1
   have YS:q+KT 0<=1000000:=by rw [MD] at *;omega
   cbv
   refine ⟨v,⟨h0,hv⟩,?_⟩
   cbv
   refine bV.jM ih (λa y=>pq 0 a y) ⟨bs,q,aN,aZ,bf,data,v⟩ [0] rfl (by have bm:=vG;exact cQ) (by exact ao) ⟨⟨eQ,YS,hr,ht,hm,by decide,BH⟩⟩ λy hy=>?_
   have hy:l6 0 ⟨bs,q,aN,aZ,bf,data,v⟩ y:=hy.out
   have bA:Ik 0 (iz.sc ⟨bs,p,aN,aZ,bf,data,w⟩) p ws ⟨i+1,y.p,l++[y.e]⟩:=⟨bq,hl.add hv hy.e,v9 oW hy.lo,by have h2:y.p<=q+KT 0:=hy.hi;show y.p<=p+1+KT 0*(i+1);omega⟩
   cbv
   refine ⟨[y.e],⟨.eL rfl (λ_ _=>rfl) (λx=>(oG 0 x).1) (by exact aL),by show (l.length+1)*96<=_;omega,by show l.length+1<=_;omega⟩,?_⟩
   cbv
   exact ⟨⟨i+1,y.p,l++[y.e]⟩,by have bm:=h1;exact bI,by exact ao,⟨⟨bA,a7⟩⟩⟩
  ·(have h:=h.out;simp (disch:=exact aU) only [hS] at h)
   have bS:i=ws.length:=by exact aU
   have gB:nR (iz.sc ⟨bs,p,aN,aZ,bf,data,w⟩) (0+1) ws l:=by rw [bS,kC] at hl;exact hl
   have hmul:=JL (KT 0) (show i<=3 by omega)
   have bW:l6 1 ⟨bs,p,aN,aZ,bf,data,w⟩ ⟨.mk op 0 0 l,q⟩:=⟨hO.ex l gB,v9 (B9 p) oW,by show q<=p+KT 1;rw [MD] at *;rw [MB];omega⟩
   cbv
   refine ⟨⟨.mk op 0 0 l,q⟩,[7],[],?_,by exact ao,⟨bW⟩⟩
   cbv
   exact ⟨by exact aL,trivial⟩
theorem apE (m:Nat) (ih:iK PP 70 (zh 1 m)) (MC:iK PP 156 (OA 1 m)):iK PP 70 (zh 2 m):=by
 refine mP (KZ 2 m) (fo Tryz.func70) (λa y=>rfl) (λa=>⟨rfl,rfl⟩) .nil ?_
 rintro ⟨bs,p,aN,aZ,bf,data,w⟩ hx
 obtain ⟨eQ,hp,hr,ht,hm,hn,hw⟩:QC 2 ⟨bs,p,aN,aZ,bf,data,w⟩:=hx
 simp only at eQ hp hr ht hm hw
 have hw:1<=w/\w+2<=8:=hw
 have cv:1<=w/\w<=8:=by omega
 have MB:KT 2=13:=rfl
 have hB:=Kd eQ p
 have BI:IntKind.i64.wrap ((eu bs p).tdiv 14)=eu bs p / 14:=xB hB.1 (by omega) (by decide)
 have sP:(eu bs p).tmod 14=eu bs p % 14:=kA hB.1
 obtain ⟨u,hu⟩:∃u,u=IntKind.i64.wrap ((eu bs p).tdiv 14):=⟨_,rfl⟩
 have qt:0<=u/\u<=255:=by rw [hu,BI];omega
 obtain ⟨e0,qv⟩:∃e,e=vj ⟨aN,aZ,data,w⟩ u:=⟨_,rfl⟩
 have dv:l6 2 ⟨bs,p,aN,aZ,bf,data,w⟩ ⟨e0,p+1⟩:=⟨by rw [qv];exact Uj (x:=⟨bs,p,aN,aZ,bf,data,w⟩) qt.1 (by omega) cv,B9 _,by show p+1<=p+KT 2;omega⟩
 have j4:p<=1000000000:=by omega
 have zZ:1<=1000000000:=by decide
 have KH:e0.args=[]:=by rw [qv];exact SY qt.1 (by omega)
 refine ⟨?_⟩
 cbv
 refine ⟨⟨bs,p⟩,⟨by exact bQ,⟨eQ,j4⟩⟩,?_⟩
 cbv
 refine ⟨⟨bs,p,1⟩,⟨by exact bQ,⟨j4,zZ⟩⟩,?_⟩
 cbv
 refine ⟨⟨by decide⟩,?_⟩
 cbv
 refine ⟨λh=>?_,λh=>?_⟩
 ·have h':cU ((2+1:Nat):Int) 1=true:=h.out
  exact absurd h' (by decide)
 have yn:p+1+KT 1<=1000000:=by have:KT 1=4:=rfl;omega
 have dA:1<=w/\w+1+1<=8:=by omega
 have qw:1<=w/\w+1<=8:=by omega
 have tB:p+1+KT 1<=p+KT 2:=by have:KT 1=4:=rfl;omega
 cbv
 refine ⟨λh=>?_,λh=>?_⟩
 ·cbv
  refine ⟨⟨by decide⟩,?_⟩
  cbv
  refine ⟨(⟨aN,aZ,data,w⟩,u),⟨.inr (by have bm:=hu.symm;exact cQ),⟨hr,ht,by show 0<=w;omega,cv.2,qt.1,by show u<=1000;omega⟩⟩,?_⟩
  cbv
  refine ⟨⟨e0,p+1⟩,[],[],?_,by exact ao,⟨dv⟩⟩
  cbv
  exact ⟨by ((repeat' first|exact dW.nil|exact Le.refl _|refine dW.cons ?_ ?_|exact Le.ic rfl|exact Le.bc rfl|exact Le.i rfl|exact Le.b rfl|exact Le.sl rfl|exact Le.mp rfl|exact Le.iB rfl|exact Le.sr rfl|refine Le.dp rfl (λ_=>?_)|refine Le.eL rfl (λ_ _=>rfl) (λ_=>?_) ?_|refine Le.agg ?_|refine Le.dH ?_|refine Le.fn ?_ ?_|refine Le.dF ?_|exact trivial|refine And.intro ?_ ?_|refine λ_=>?_|exact Le.any _))<;>first|exact .i (congrArg Expr.op qv.symm)|exact .i (congrArg Expr.k qv.symm)|exact .i (congrArg Expr.w qv.symm)|exact .dp KH (λy=>(oG _ y).1),trivial⟩
 have mO:¬eu bs p % 14 < 2:=by have h':aS ((eu bs p).tmod 14) 2=false:=h.out;rw [sP] at h';simpa [aS] using h'
 cbv
 refine ⟨λh=>?_,λh=>?_⟩
 ·cbv
  refine ⟨⟨by decide⟩,?_⟩
  cbv
  refine bV.jM MC (λa y=>pq 2 a.1 y) (⟨bs,p+1,aN,aZ,bf,data,w⟩,u) [0] rfl (by have bm:=hu.symm;exact cQ) (by exact ao) ⟨⟨eQ,yn,hr,ht,hm,by decide,dA,qt⟩⟩ λy hy=>?_
  have hy:vk 1 ⟨bs,p+1,aN,aZ,bf,data,w⟩ y:=hy.out
  have bW:l6 2 ⟨bs,p,aN,aZ,bf,data,w⟩ y:=⟨hy.e,JN hy.lo,v9 hy.hi tB⟩
  cbv
  refine ⟨y,[],[],?_,by exact ao,⟨bW⟩⟩
  cbv
  exact ⟨by exact aL,trivial⟩
 have nU:eu bs p % 14≠2:=by have h':aV ((eu bs p).tmod 14) 2=false:=h.out;rw [sP] at h';simpa [aV] using h'
 cbv
 refine ⟨λh=>?_,λh=>?_⟩
 ·cbv
  refine ⟨⟨by decide⟩,?_⟩
  cbv
  refine bV.jM MC (λa y=>pq 2 a.1 y) (⟨bs,p+1,aN,aZ,bf,data,w⟩,u) [0] rfl (by have bm:=hu.symm;exact cQ) (by exact ao) ⟨⟨eQ,yn,hr,ht,hm,by decide,dA,qt⟩⟩ λy hy=>?_
  have hy:vk 1 ⟨bs,p+1,aN,aZ,bf,data,w⟩ y:=hy.out
  have bW:l6 2 ⟨bs,p,aN,aZ,bf,data,w⟩ y:=⟨hy.e,JN hy.lo,v9 hy.hi tB⟩
  cbv
  refine ⟨y,[],[],?_,by exact ao,⟨bW⟩⟩
  cbv
  exact ⟨by exact aL,trivial⟩
 have RA:eu bs p % 14≠3:=by have h':aV ((eu bs p).tmod 14) 3=false:=h.out;rw [sP] at h';simpa [aV] using h'
 have gE:IntKind.i64.wrap ((eu bs p).tmod 14 - 4)=eu bs p % 14 - 4:=by rw [sP,cD (by omega) (by omega)]
 refine (aeX hB mO nU RA gE).elim λfA fg=>?_
 cbv
 refine ⟨(fA,[2,3,4,5,6,7,10,8,9,11]),⟨by exact aL,rfl,fg.1,fg.2.1⟩,?_⟩
 apply Co (λc k=>∀(op:Int) (ws:List Int),kG 1 (iz.sc ⟨bs,p,aN,aZ,bf,data,w⟩) w op ws->Sat [.own 0] false PP c (pB 2 m ⟨bs,p,aN,aZ,bf,data,w⟩ op ws) k)
 ·intro tail
  cbv
  refine ⟨λh=>?_,λh=>?_⟩
  ·have ho:fA=2:=bG
   refine (⟨_,rfl⟩:∃ws:List Int,ws=[w]).elim λws dA=>?_
   have hO:=kG.not (k:=1) (sc:=iz.sc ⟨bs,p,aN,aZ,bf,data,w⟩) qw
   rw [<-ho,<-dA] at hO
   cbv
   exact kQ 7 (pB 2 m ⟨bs,p,aN,aZ,bf,data,w⟩ fA ws) (by subst dA;exact ao) (by exact ao) (tail fA ws hO)
  have j5:fA≠2:=bG
  cbv
  refine ⟨λh=>?_,λh=>?_⟩
  ·have ho:fA=10:=bG
   refine (⟨_,rfl⟩:∃ws:List Int,ws=[1,w,w]).elim λws dA=>?_
   have hO:=kG.tG (k:=1) (sc:=iz.sc ⟨bs,p,aN,aZ,bf,data,w⟩) qw
   rw [<-ho,<-dA] at hO
   cbv
   exact kQ 7 (pB 2 m ⟨bs,p,aN,aZ,bf,data,w⟩ fA ws) (by subst dA;exact ao) (by exact ao) (tail fA ws hO)
  have aur:fA≠10:=bG
  cbv
  refine ⟨λh=>?_,λh=>?_⟩
  ·have ho:fA=8:=bG
   cbv
   refine ⟨λh=>?_,λh=>?_⟩
   ·refine (⟨_,rfl⟩:∃ws:List Int,ws=[w,w]).elim λws dA=>?_
    have hO:=kG.two (k:=1) (sc:=iz.sc ⟨bs,p,aN,aZ,bf,data,w⟩) (op:=5) (by decide) (by decide) qw
    rw [<-dA] at hO
    cbv
    exact kQ 7 (pB 2 m ⟨bs,p,aN,aZ,bf,data,w⟩ 5 ws) (by subst dA;exact ao) (by exact ao) (tail 5 ws hO)
   ·have fH:w=1:=by
      have h':aS 1 w=false:=h.out;have:¬1 < w:=by simpa [aS] using h'
      omega
    refine (⟨_,rfl⟩:∃v:Int,v=IntKind.i64.wrap (1+(IntKind.i64.wrap ((eu bs p).tdiv 14)).tmod 3)).elim λv hv=>?_
    have w8:1<=v/\v<=3:=by
     have:=kA (k:=3) (show 0<=eu bs p / 14 by omega)
     rw [hv,BI,this,cD (by omega) (by omega)];omega
    refine (⟨_,rfl⟩:∃ws:List Int,ws=[v,v]).elim λws dA=>?_
    have hO:=kG.cmp (k:=1) (sc:=iz.sc ⟨bs,p,aN,aZ,bf,data,w⟩) (op:=fA) (by omega) (by omega) w8.1 (by omega)
    rw [<-dA,<-fH] at hO
    cbv
    refine ⟨⟨by decide⟩,?_⟩
    cbv
    refine ⟨⟨by decide⟩,?_⟩
    cbv
    refine ⟨⟨by decide⟩,?_⟩
    cbv
    refine ⟨⟨by decide⟩,?_⟩
    cbv
    exact kQ 7 (pB 2 m ⟨bs,p,aN,aZ,bf,data,w⟩ fA ws) (by subst dA;have bm:=hv.symm;exact bI) (by exact ao) (tail fA ws hO)
  have ho8:fA≠8:=bG
  cbv
  refine ⟨λh=>?_,λh=>?_⟩
  ·have ho:fA=9:=bG
   cbv
   refine ⟨λh=>?_,λh=>?_⟩
   ·refine (⟨_,rfl⟩:∃ws:List Int,ws=[w,w]).elim λws dA=>?_
    have hO:=kG.two (k:=1) (sc:=iz.sc ⟨bs,p,aN,aZ,bf,data,w⟩) (op:=5) (by decide) (by decide) qw
    rw [<-dA] at hO
    cbv
    exact kQ 7 (pB 2 m ⟨bs,p,aN,aZ,bf,data,w⟩ 5 ws) (by subst dA;exact ao) (by exact ao) (tail 5 ws hO)
   ·have fH:w=1:=by
      have h':aS 1 w=false:=h.out;have:¬1 < w:=by simpa [aS] using h'
      omega
    refine (⟨_,rfl⟩:∃v:Int,v=IntKind.i64.wrap (1+(IntKind.i64.wrap ((eu bs p).tdiv 14)).tmod 3)).elim λv hv=>?_
    have w8:1<=v/\v<=3:=by
     have:=kA (k:=3) (show 0<=eu bs p / 14 by omega)
     rw [hv,BI,this,cD (by omega) (by omega)];omega
    refine (⟨_,rfl⟩:∃ws:List Int,ws=[v,v]).elim λws dA=>?_
    have hO:=kG.cmp (k:=1) (sc:=iz.sc ⟨bs,p,aN,aZ,bf,data,w⟩) (op:=fA) (by omega) (by omega) w8.1 (by omega)
    rw [<-dA,<-fH] at hO
    cbv
    refine ⟨⟨by decide⟩,?_⟩
    cbv
    refine ⟨⟨by decide⟩,?_⟩
    cbv
    refine ⟨⟨by decide⟩,?_⟩
    cbv
    refine ⟨⟨by decide⟩,?_⟩
    cbv
    exact kQ 7 (pB 2 m ⟨bs,p,aN,aZ,bf,data,w⟩ fA ws) (by subst dA;have bm:=hv.symm;exact bI) (by exact ao) (tail fA ws hO)
  have ho9:fA≠9:=bG
  cbv
  refine ⟨λh=>?_,λh=>?_⟩
  ·have ho:fA=11:=bG
   cbv
   refine ⟨λh=>?_,λh=>?_⟩
   ·refine (⟨_,rfl⟩:∃ws:List Int,ws=[w,w]).elim λws dA=>?_
    have hO:=kG.two (k:=1) (sc:=iz.sc ⟨bs,p,aN,aZ,bf,data,w⟩) (op:=3) (by decide) (by decide) qw
    rw [<-dA] at hO
    cbv
    exact kQ 7 (pB 2 m ⟨bs,p,aN,aZ,bf,data,w⟩ 3 ws) (by subst dA;exact ao) (by exact ao) (tail 3 ws hO)
   ·have fH:w≠1:=bG
    refine (⟨_,rfl⟩:∃v:Int,v=IntKind.i64.wrap (w - 1)).elim λv hv=>?_
    have BH:w=v+1:=by rw [hv,cD (by omega) (by omega)];omega
    refine (⟨_,rfl⟩:∃ws:List Int,ws=[v,1]).elim λws dA=>?_
    have hO:=kG.cat (k:=1) (sc:=iz.sc ⟨bs,p,aN,aZ,bf,data,w⟩) BH cv (by omega) (by omega)
    rw [<-ho,<-dA] at hO
    cbv
    exact kQ 7 (pB 2 m ⟨bs,p,aN,aZ,bf,data,w⟩ fA ws) (by subst dA;have bm:=hv.symm;exact bI) (by exact ao) (tail fA ws hO)
  ·have aus:fA≠11:=bG
   refine (⟨_,rfl⟩:∃ws:List Int,ws=[w,w]).elim λws dA=>?_
   have hO:=kG.two (k:=1) (sc:=iz.sc ⟨bs,p,aN,aZ,bf,data,w⟩) (op:=fA) (by omega) (by omega) qw
   rw [<-dA] at hO
   cbv
   exact kQ 7 (pB 2 m ⟨bs,p,aN,aZ,bf,data,w⟩ fA ws) (by subst dA;exact ao) (by exact ao) (tail fA ws hO)
 ·intro op ws hO
  have DE:=hO.len
  have Xa:=hO.wid
  have vG:IntKind.i64.wrap (((2+1:Nat):Int) - 1)=((1+1:Nat):Int):=by decide
  have MD:KT 1=4:=rfl
  refine Sat.iH 6 6 149 7 (Lt 1) (oG _) rfl rfl ?_
  refine Sat.cd (KZ 2 m) 8 13 [(.c 6 6,7)] (λx:TL=>[(13,.i .i64 λ_=>(x.i:Int))])
   (λx=>[(1,.fix 142 [.sl 1 iN (λ_=>bs),.i .i64 (λ_=>(x.q:Int))]),(6,.fix 149 [.i .i64 (λ_=>op),.str (λ_=>es),.ic .i64 0,.str (λ_=>es),.ic .i64 0,.str (λ_=>es),.own 7]),(7,.dyn 149 7 (cE 1) λ_=>x.l)])
   (λx=>Ik 1 (iz.sc ⟨bs,p,aN,aZ,bf,data,w⟩) p ws x) (λx=>ws.length - x.i) ⟨0,p+1,[]⟩ (by exact ao) (by exact ao) ⟨cL _,trivial,cR _,cR _⟩ ?_
  rintro ⟨i,q,l⟩ hJ
  have hJ:Ik 1 (iz.sc ⟨bs,p,aN,aZ,bf,data,w⟩) p ws ⟨i,q,l⟩:=hJ
  obtain ⟨hi,hl,oW,ME⟩:=hJ
  simp only at hi hl oW ME
  have mq:l.length<=3:=by have:=hl.len;rw [kB] at this;omega
  have h0:=n0 i
  have h1:=cj (i:=i) (by omega)
  cbv
  refine ⟨λh=>?_,λh=>?_⟩
  ·(have h:=h.out;simp (disch:=exact aU) only [hS] at h)
   have bq:i < ws.length:=by exact aU
   have a7:ws.length - (i+1) < ws.length - i:=by omega
   obtain ⟨v,hv⟩:=bB bq
   have BH:=Xa v (cb hv)
   have hmul:=Oe (KT 1) i 1
   have YS:q+KT 1<=1000000:=by rw [MD] at *;omega
   cbv
   refine ⟨v,⟨h0,hv⟩,?_⟩
   cbv
   refine bV.jM ih (λa y=>pq 1 a y) ⟨bs,q,aN,aZ,bf,data,v⟩ [0] rfl (by have bm:=vG;exact cQ) (by exact ao) ⟨⟨eQ,YS,hr,ht,hm,by decide,BH⟩⟩ λy hy=>?_
   have hy:l6 1 ⟨bs,q,aN,aZ,bf,data,v⟩ y:=hy.out
   have bA:Ik 1 (iz.sc ⟨bs,p,aN,aZ,bf,data,w⟩) p ws ⟨i+1,y.p,l++[y.e]⟩:=⟨bq,hl.add hv hy.e,v9 oW hy.lo,by have h2:y.p<=q+KT 1:=hy.hi;show y.p<=p+1+KT 1*(i+1);omega⟩
   cbv
   refine ⟨[y.e],⟨.eL rfl (λ_ _=>rfl) (λx=>(oG 1 x).1) (by exact aL),by show (l.length+1)*96<=_;omega,by show l.length+1<=_;omega⟩,?_⟩
   cbv
   exact ⟨⟨i+1,y.p,l++[y.e]⟩,by have bm:=h1;exact bI,by exact ao,⟨⟨bA,a7⟩⟩⟩
  ·(have h:=h.out;simp (disch:=exact aU) only [hS] at h)
   have bS:i=ws.length:=by exact aU
   have gB:nR (iz.sc ⟨bs,p,aN,aZ,bf,data,w⟩) (1+1) ws l:=by rw [bS,kC] at hl;exact hl
   have hmul:=JL (KT 1) (show i<=3 by omega)
   have bW:l6 2 ⟨bs,p,aN,aZ,bf,data,w⟩ ⟨.mk op 0 0 l,q⟩:=⟨hO.ex l gB,v9 (B9 p) oW,by show q<=p+KT 2;rw [MD] at *;rw [MB];omega⟩
   cbv
   refine ⟨⟨.mk op 0 0 l,q⟩,[7],[],?_,by exact ao,⟨bW⟩⟩
   cbv
   exact ⟨by exact aL,trivial⟩
theorem Vn (m:Nat):iK PP 70 (zh 0 m):=apC m
theorem HG (m:Nat):iK PP 70 (zh 1 m):=apD m (Vn m) (anx m (Vn m))
theorem aqM (m:Nat):iK PP 70 (zh 2 m):=apE m (HG m) (anz m (HG m))
def PU:List ByteArray:=[⟨#[97]⟩,⟨#[98]⟩,⟨#[99,48]⟩,⟨#[119]⟩,⟨#[120,49,121]⟩,⟨#[116,111,112]⟩,⟨#[122,57]⟩,⟨#[109]⟩]
theorem adZ:∃f:Int->ByteArray,∀n,f n=PU.getD (n.tmod 8).toNat es:=⟨_,λ_=>rfl⟩
noncomputable def Bc:Int->ByteArray:=Classical.choose adZ
theorem anA (n:Int):Bc n=PU.getD (n.tmod 8).toNat es:=xF adZ n
theorem UL {n:Int} (h0:0<=n):0<=n.tmod 8/\PU[(n.tmod 8).toNat]?=some (Bc n)/\(Bc n).size<=3:=by
 rw [anA,kA h0]
 have:n % 8=0\/n % 8=1\/n % 8=2\/n % 8=3\/n % 8=4\/n % 8=5\/n % 8=6\/n % 8=7:=by omega
 rcases this with h|h|h|h|h|h|h|h<;>rw [h]<;>exact ⟨by decide,rfl,by decide⟩
@[reducible] noncomputable def af4:Vc.Spec where
 α:=Int
 args x:=[.i .i64 (λ_=>x)]
 pre x:=0<=x
 res x:=.str (λ_=>Bc x)
theorem apF:cW (PP ()) 152 af4:=by
 refine dT (iR 0 0) (fo Tryz.func152) (λa=>⟨trivial,trivial⟩) (λa=>trivial) ?_
 intro n hn
 have hn:0<=n:=hn
 have iL:=UL hn
 obtain ⟨s,hs⟩:∃s,s=Bc n:=⟨_,rfl⟩
 rw [<-hs] at iL
 obtain ⟨L,hL⟩:∃L,L=PU:=⟨_,rfl⟩
 have hl8:L.length=8:=by rw [hL];rfl
 rw [<-hL] at iL
 refine ⟨?_⟩
 cbv
 refine ⟨⟨by decide⟩,?_⟩
 cbv
 refine ⟨(s,L),⟨by subst hL;exact .cons (.str rfl) (.cons (.str rfl) (.cons (.str rfl) (.cons (.str rfl) (.cons (.str rfl) (.cons (.str rfl) (.cons (.str rfl) (.cons (.str rfl) .nil))))))),hl8,iL.1,iL.2.1⟩,?_⟩
 cbv
 exact ⟨.str hs⟩
theorem ad3:∃f:Int->ByteArray->nI,∀b s,f b s=if b % 4=1 then ⟨1,es,0⟩ else if b % 4=2 then ⟨2,s,0⟩ else if b % 4=3 then ⟨3,s,(IntKind.i64.wrap (b.tdiv 4)).tmod 5⟩ else ⟨0,es,0⟩:=⟨_,λ_ _=>rfl⟩
noncomputable def PV:Int->ByteArray->nI:=Classical.choose ad3
theorem anB (b:Int) (s:ByteArray):PV b s=if b % 4=1 then ⟨1,es,0⟩ else if b % 4=2 then ⟨2,s,0⟩ else if b % 4=3 then ⟨3,s,(IntKind.i64.wrap (b.tdiv 4)).tmod 5⟩ else ⟨0,es,0⟩:=xF ad3 b s
@[reducible] noncomputable def af5:Vc.Spec where
 α:=Int × ByteArray
 args x:=[.i .i64 (λ_=>x.1),.str (λ_=>x.2)]
 pre x:=0<=x.1
 res x:=.agg (vh (PV x.1 x.2))
theorem apG:cW (PP ()) 153 af5:=by
 refine dT (iR 0 0) (fo Tryz.func153) (λa=>⟨trivial,trivial,trivial⟩) (λa=>⟨trivial,trivial,trivial,trivial⟩) ?_
 rintro ⟨b,s⟩ hb
 have hb:0<=b:=hb
 have hm:=kA (k:=4) hb
 have hd:=anB b s
 refine ⟨?_⟩
 cbv
 refine ⟨⟨by decide⟩,?_⟩
 cbv
 refine ⟨λh=>?_,λh=>?_⟩
 ·have h4:b % 4=1:=by have h':aV (b.tmod 4) 1=true:=h.out;rw [hm] at h';simpa [aV] using h'
  rw [if_pos h4] at hd
  cbv
  exact ⟨.agg (.cons (.ic (congrArg nI.kind hd).symm) (.cons (.str (congrArg nI.src hd).symm) (.cons (.ic (congrArg nI.n hd).symm) .nil)))⟩
 have h41:¬b % 4=1:=by have h':aV (b.tmod 4) 1=false:=h.out;rw [hm] at h';simpa [aV] using h'
 rw [if_neg h41] at hd
 cbv
 refine ⟨λh=>?_,λh=>?_⟩
 ·have h4:b % 4=2:=by have h':aV (b.tmod 4) 2=true:=h.out;rw [hm] at h';simpa [aV] using h'
  rw [if_pos h4] at hd
  cbv
  exact ⟨.agg (.cons (.ic (congrArg nI.kind hd).symm) (.cons (.str (congrArg nI.src hd).symm) (.cons (.ic (congrArg nI.n hd).symm) .nil)))⟩
 have h42:¬b % 4=2:=by have h':aV (b.tmod 4) 2=false:=h.out;rw [hm] at h';simpa [aV] using h'
 rw [if_neg h42] at hd
 cbv
 refine ⟨λh=>?_,λh=>?_⟩
 ·have h4:b % 4=3:=by have h':aV (b.tmod 4) 3=true:=h.out;rw [hm] at h';simpa [aV] using h'
  rw [if_pos h4] at hd
  cbv
  refine ⟨⟨by decide⟩,?_⟩
  cbv
  refine ⟨⟨by decide⟩,?_⟩
  cbv
  exact ⟨.agg (.cons (.ic (congrArg nI.kind hd).symm) (.cons (.str (congrArg nI.src hd).symm) (.cons (.i (congrArg nI.n hd).symm) .nil)))⟩
 ·have h43:¬b % 4=3:=by have h':aV (b.tmod 4) 3=false:=h.out;rw [hm] at h';simpa [aV] using h'
  rw [if_neg h43] at hd
  cbv
  exact ⟨.agg (.cons (.ic (congrArg nI.kind hd).symm) (.cons (.str (congrArg nI.src hd).symm) (.cons (.ic (congrArg nI.n hd).symm) .nil)))⟩
structure Il where
 b:List Int
 p:Nat
 aN:List Int
 aZ:List Int
 bf:List Mem
 data:Bool
def Il.sc (x:Il):Sc:=⟨x.aN,x.aZ,x.bf.map λm=>(m.w,m.words),x.data⟩
structure ahJ (x:Il):Prop where
 b:qN x.b
 p:x.p+10<=1000000
 aN:x.aN.length<=1000
 aZ:x.aZ.length<=1000
 bf:x.bf.length<=1000
structure HQ (x:Il) (y:C1):Prop where
 e:WT x.sc 2 1 y.e
 lo:x.p<=y.p
 hi:y.p<=x.p+10
@[reducible] noncomputable def asi (m:Nat):na where
 α:=Il
 args x:=[.agg [.sl 1 iN (λ_=>x.b),.i .i64 (λ_=>(x.p:Int))],.agg [.sl 1 bK (λ_=>x.aN),.sl 1 bK (λ_=>x.aZ),.own 0,.b (λ_=>x.data)]]
 io x:=[.dyn 163 27 (sF m) (λ_=>x.bf)]
 pre x:=ahJ x
 β:=C1
 post x y:=HQ x y
 mv:=[]
 res x y:=.agg (cE 1 y.e++[.sl 1 iN (λ_=>x.b),.i .i64 (λ_=>(y.p:Int))])
 ko x y:=[.dyn 163 27 (sF m) (λ_=>x.bf)]
noncomputable def cWh (n m:Nat):Ctx:=fy n m [(70,Tryz.f70)] [(71,PS),(72,Ry),(154,UK)] [70]
theorem asj (n m:Nat):CB PP (cWh n m):=fF n m ⟨fo Tryz.func70,trivial⟩ ⟨UJ,VR,abQ,trivial⟩
theorem UM (m:Nat):iK PP 69 (asi m):=by
 refine mP (asj 1 m) (fo Tryz.func69) (λa y=>rfl) (λa=>⟨rfl,rfl⟩) .nil ?_
 rintro ⟨bs,p,aN,aZ,bf,data⟩ hx
 obtain ⟨eQ,hp,hr,ht,hm⟩:ahJ ⟨bs,p,aN,aZ,bf,data⟩:=hx
 simp only at eQ hp hr ht hm
 have hB:=Kd eQ p
 have j4:p<=1000000000:=by omega
 have zZ:1<=1000000000:=by decide
 have MB:KT 1=4:=rfl
 have vH:p+1+KT 1<=1000000:=by omega
 obtain ⟨q,hq⟩:∃q,q=FF 1 1:=⟨_,rfl⟩
 have asl:HQ ⟨bs,p,aN,aZ,bf,data⟩ ⟨.mk 1 q 1 [],p+1⟩:=⟨.const ⟨by decide,by decide⟩,B9 _,by show p+1<=p+10;omega⟩
 refine ⟨?_⟩
 cbv
 refine ⟨⟨bs,p⟩,⟨by exact bQ,⟨eQ,j4⟩⟩,?_⟩
 cbv
 refine ⟨⟨by decide⟩,?_⟩
 cbv
 refine ⟨λh=>?_,λh=>?_⟩
 ·cbv
  refine ⟨(1,1),⟨by exact bQ,by decide⟩,?_⟩
  cbv
  refine ⟨⟨bs,p,1⟩,⟨by exact bQ,⟨j4,zZ⟩⟩,?_⟩
  cbv
  refine ⟨⟨.mk 1 q 1 [],p+1⟩,[],[],?_,by exact ao,⟨asl⟩⟩
  cbv
  exact ⟨by have bm:=hq.symm;exact dy,trivial⟩
 ·cbv
  refine ⟨⟨bs,p,1⟩,⟨by exact bQ,⟨j4,zZ⟩⟩,?_⟩
  cbv
  refine bV.jM (HG m) (λa y=>pq 1 a y) ⟨bs,p+1,aN,aZ,bf,data,1⟩ [0] rfl (by exact bQ) (by exact ao) ⟨⟨eQ,vH,hr,ht,hm,by decide,(by show (1:Int)<=1/\(1:Int)+1<=8;decide)⟩⟩ λy hy=>?_
  have hy:l6 1 ⟨bs,p+1,aN,aZ,bf,data,1⟩ y:=hy.out
  have bW:HQ ⟨bs,p,aN,aZ,bf,data⟩ y:=⟨hy.e,JN hy.lo,by have h2:y.p<=p+1+KT 1:=hy.hi;show y.p<=p+10;omega⟩
  cbv
  refine ⟨y,[],[],?_,by exact ao,⟨bW⟩⟩
  cbv
  exact ⟨by exact aL,trivial⟩
end Go.Proofs.Pk
