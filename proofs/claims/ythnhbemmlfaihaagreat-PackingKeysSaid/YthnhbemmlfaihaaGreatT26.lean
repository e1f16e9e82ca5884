import Derived.Test.YthnhbemmlfaihaaGreatT19
import Derived.Test.YthnhbemmlfaihaaGreatT25
set_option linter.unusedVariables false
set_option linter.unusedSimpArgs false
set_option maxRecDepth 10000
set_option maxHeartbeats 64000000
namespace Go.Proofs.Pk
open Go Go.Vc
theorem kD {S:List SV} {r:Bool} {P:Unit->Program} {c:Code} {s:Vc.St} {k:Exit->Vc.St->Prop} (n:Nat) (s':Vc.St) (h0:qH (s.cut n).t s'.t) (pT:nA (s.cut n).b s'.b)
 (h:Sat S r P c s' k) (hn:mS (Nat.ble n) S=false:=by rfl):Sat S r P c s k:=⟨λF R f η H a w hS D=>h.out F R f η H a w hS ((D.cut n (by rw [hS];exact hn)).weaken ⟨h0,pT⟩)⟩
theorem BQ {G:Prop} (T:Code->(Exit->Vc.St->Prop)->Prop) {c:Code} {k:Exit->Vc.St->Prop} (main:T c k->G) (tail:T c k):G:=main tail
theorem Tm {x:ij} {u:Int} {n:Nat} (h0:0<=u) (h1:u<=1000) (hw:1<=x.w/\x.w<=8):WT x.sc (n+1) x.w (uL ⟨x.aN,x.aZ,x.data,x.w⟩ u):=by
 rcases aaV (x:=⟨x.aN,x.aZ,x.data,x.w⟩) h0 h1 with ⟨k,e⟩|h
 ·rw [e];exact .const hw
 ·rcases ZN h with ⟨i,hi,e⟩|⟨hd,i,hi,e⟩
  ·rw [e];exact .bf i hi
  ·rw [e];exact .data i hd hi
theorem R4 {x:uR} {u:Int} (h0:0<=u) (h1:u<=1000):(uL x u).args=[]:=by
 rcases aaV (x:=x) h0 h1 with ⟨k,e⟩|h
 ·rw [e];rfl
 ·rcases ZN h with ⟨i,hi,e⟩|⟨hd,i,hi,e⟩<;>rw [e]<;>rfl
theorem adT {B j:Int} (hB:0<=B/\B<=255) (h2:¬B % 14 < 2) (h3:B % 14≠2) (h4:B % 14≠3) (hj:j=B % 14 - 4) :
  ∃o:Int,0<=j/\([2,3,4,5,6,7,10,8,9,11]:List Int)[j.toNat]?=some o/\2<=o/\o<=11:=by
 have:j=0\/j=1\/j=2\/j=3\/j=4\/j=5\/j=6\/j=7\/j=8\/j=9:=by omega
 rcases this with h|h|h|h|h|h|h|h|h|h<;>rw [h]<;>exact ⟨_,by decide,rfl,by decide,by decide⟩
structure ko (k:Nat) (sc:Sc) (w op:Int) (ws:List Int):Prop where
 ex:∀es,nB sc (k+1) ws es->WT sc (k+2) w (.mk op 0 0 es)
 len:ws.length<=3
 wid:∀v∈ws,1<=v/\v+k<=8
theorem agD {sc:Sc} {k:Nat} {v:Int}:∀{es:List Expr},nB sc k [v] es->∃a,es=[a]/\WT sc k v a
 | [],h=>h.elim
 | [a],h=>⟨a,rfl,h.1⟩
 | _ :: _ :: _,h=>h.2.elim
theorem PO {sc:Sc} {k:Nat} {u v:Int}:∀{es:List Expr},nB sc k [u,v] es->∃a b,es=[a,b]/\WT sc k u a/\WT sc k v b
 | [],h=>h.elim
 | a :: es,h=>by obtain ⟨b,rfl,hb⟩:=agD h.2;exact ⟨a,b,rfl,h.1,hb⟩
theorem as3 {sc:Sc} {k:Nat} {t u v:Int}:∀{es:List Expr},nB sc k [t,u,v] es->∃a b c,es=[a,b,c]/\WT sc k t a/\WT sc k u b/\WT sc k v c
 | [],h=>h.elim
 | a :: es,h=>by obtain ⟨b,c,rfl,hb,hc⟩:=PO h.2;exact ⟨a,b,c,rfl,h.1,hb,hc⟩
theorem ko.not {k:Nat} {sc:Sc} {w:Int} (hw:1<=w/\w+k<=8):ko k sc w 2 [w]:=⟨λes h=>by obtain ⟨a,rfl,ha⟩:=agD h;exact .not ha,by simp,λv hv=>by simp at hv;rw [hv];exact hw⟩
theorem ko.two {k:Nat} {sc:Sc} {w op:Int} (h3:3<=op) (h7:op<=7) (hw:1<=w/\w+k<=8):ko k sc w op [w,w]:=⟨λes h=>by obtain ⟨a,b,rfl,ha,hb⟩:=PO h;exact .two h3 h7 ha hb,by simp,λv hv=>by simp at hv;rw [hv];exact hw⟩
theorem ko.cmp {k:Nat} {sc:Sc} {v op:Int} (h8:8<=op) (h9:op<=9) (h1:1<=v) (h2:v+k<=8):ko k sc 1 op [v,v]:=⟨λes h=>by obtain ⟨a,b,rfl,ha,hb⟩:=PO h;exact .cmp h8 h9 ha hb,by simp,λv hv=>by simp at hv;rw [hv];exact ⟨h1,h2⟩⟩
theorem ko.s5 {k:Nat} {sc:Sc} {w:Int} (hw:1<=w/\w+k<=8):ko k sc w 10 [1,w,w]:=⟨λes h=>by obtain ⟨a,b,c,rfl,ha,hb,hc⟩:=as3 h;exact .s5 ha hb hc,by simp,λv hv=>by
 simp at hv
 rcases hv with rfl|rfl
 ·omega
 ·exact hw⟩
theorem ko.cat {k:Nat} {sc:Sc} {v w:Int} (Bb:w=v+1) (cq:1<=w/\w<=8) (h1:1<=v) (h2:v+k<=7):ko k sc w 11 [v,1]:=⟨λes h=>by obtain ⟨a,b,rfl,ha,hb⟩:=PO h;exact .cat Bb cq ha hb,by simp,λv hv=>by
 simp at hv
 rcases hv with rfl|rfl
 ·omega
 ·omega⟩
theorem nB.add {sc:Sc} {k:Nat} {v:Int} {e:Expr}:∀{ws:List Int} {es:List Expr} {i:Nat},nB sc k (ws.take i) es->ws[i]?=some v->WT sc k v e->nB sc k (ws.take (i+1)) (es++[e])
 | [],es,i,_,h,_=>by simp at h
 | x :: ws,[],0,_,hv,he=>by simp at hv;subst hv;exact ⟨he,by simp [nB]⟩
 | x :: ws,[],i+1,h,_,_=>h.elim
 | x :: ws,y :: es,0,h,_,_=>h.elim
 | x :: ws,y :: es,i+1,h,hv,he=>⟨h.1,nB.add (ws:=ws) h.2 (by simpa using hv) he⟩
structure TL where
 i:Nat
 q:Nat
 l:List Expr
structure Hz (k:Nat) (sc:Sc) (p:Nat) (ws:List Int) (x:TL):Prop where
 le:x.i<=ws.length
 ok:nB sc (k+1) (ws.take x.i) x.l
 lo:p+1<=x.q
 hi:x.q<=p+1+KT k*x.i
noncomputable def o6 (n m:Nat) (x:ij) (op:Int) (ws:List Int):Vc.St :=
 ⟨[.any,.any,.any,.ptr 1 0,.ptr 2 0,.ptr 3 0,.ptr 4 0,.i .i64 (λ_=>x.w),.i .i64 (λ_=>((n+1:Nat):Int)),.any,.any,.ptr 6 0,.sl 1 bJ (λ_=>ws),.ic .i64 0]++xA 109,
  [.dyn 163 27 (rZ m) (λ_=>x.bd),.fix 142 [.sl 1 iF (λ_=>x.b),.i .i64 (λ_=>((x.p+1:Nat):Int))],
   .fix 140 [.sl 1 bJ (λ_=>x.aN),.sl 1 bJ (λ_=>x.aZ),.own 0,.b (λ_=>x.data)],.fix 129 [.i .i64 (λ_=>x.w),.i .i64 (λ_=>((n+1:Nat):Int))],
   .fix 151 [.ic .i64 0,.str (λ_=>es),.ic .i64 0,.str (λ_=>es),.ic .i64 0,.str (λ_=>es),.di,.di,.ic .i64 0],.un,
   .fix 149 [.i .i64 (λ_=>op),.str (λ_=>es),.ic .i64 0,.str (λ_=>es),.ic .i64 0,.str (λ_=>es),.di]]⟩
noncomputable def cTy (n m:Nat):Ctx:=fl n m [(70,Tryz.f70),(156,Tryz.f156)] [(71,O4),(72,QI),(155,ae0)] [70,156]
theorem Kg (n m:Nat):CB PP (cTy n m):=fy n m ⟨fo Tryz.func70,fo Tryz.func156,trivial⟩ ⟨TS,UZ,aom,trivial⟩
theorem aon (m:Nat):iC PP 70 (yJ 0 m):=by
 refine mA (Kg 0 m) (fo Tryz.func70) (λa y=>rfl) (λa=>⟨rfl,rfl⟩) .nil ?_
 rintro ⟨bs,p,aN,aZ,bd,data,w⟩ hx
 obtain ⟨eM,hp,hr,ht,hm,hn,hw⟩:PN 0 ⟨bs,p,aN,aZ,bd,data,w⟩:=hx
 simp only at eM hp hr ht hm hw
 have hw:1<=w/\w+0<=8:=hw
 have cq:1<=w/\w<=8:=by omega
 have LV:KT 0=1:=rfl
 have hB:=JB eM p
 have Bc:IntKind.i64.wrap ((eo bs p).tdiv 14)=eo bs p / 14:=w6 hB.1 (by omega) (by decide)
 have sm:(eo bs p).tmod 14=eo bs p % 14:=kg hB.1
 obtain ⟨u,hu⟩:∃u,u=IntKind.i64.wrap ((eo bs p).tdiv 14):=⟨_,rfl⟩
 have pW:0<=u/\u<=255:=by rw [hu,Bc];omega
 obtain ⟨e0,pY⟩:∃e,e=uL ⟨aN,aZ,data,w⟩ u:=⟨_,rfl⟩
 have dn:lP 0 ⟨bs,p,aN,aZ,bd,data,w⟩ ⟨e0,p+1⟩:=⟨by rw [pY];exact Tm (x:=⟨bs,p,aN,aZ,bd,data,w⟩) pW.1 (by omega) cq,By _,by show p+1<=p+KT 0;omega⟩
 have jU:p<=1000000000:=by omega
 have zq:1<=1000000000:=by decide
 have J1:e0.args=[]:=by rw [pY];exact R4 pW.1 (by omega)
 refine ⟨?_⟩
 cbv
 refine ⟨⟨bs,p⟩,⟨by exact bP,⟨eM,jU⟩⟩,?_⟩
 cbv
 refine ⟨⟨bs,p,1⟩,⟨by exact bP,⟨jU,zq⟩⟩,?_⟩
 cbv
 refine ⟨⟨by decide⟩,?_⟩
 cbv
 refine ⟨λh=>?_,λh=>?_⟩
 ·cbv
  refine ⟨⟨by decide⟩,?_⟩
  cbv
  refine ⟨(⟨aN,aZ,data,w⟩,u),⟨.inr (by have bj:=hu.symm;exact cN),⟨hr,ht,by show 0<=w;omega,cq.2,pW.1,by show u<=1000;omega⟩⟩,?_⟩
  cbv
  refine ⟨⟨e0,p+1⟩,[],[],?_,by exact ao,⟨dn⟩⟩
  cbv
  exact ⟨by ((repeat' first|exact dT.nil|exact Le.refl _|refine dT.cons ?_ ?_|exact Le.ic rfl|exact Le.bc rfl|exact Le.i rfl|exact Le.b rfl|exact Le.sl rfl|exact Le.mp rfl|exact Le.im rfl|exact Le.rO rfl|refine Le.di rfl (λ_=>?_)|refine Le.eH rfl (λ_ _=>rfl) (λ_=>?_) ?_|refine Le.agg ?_|refine Le.dE ?_|refine Le.fn ?_ ?_|refine Le.dC ?_|exact trivial|refine And.intro ?_ ?_|refine λ_=>?_|exact Le.any _))<;>first|exact .i (congrArg Expr.op pY.symm)|exact .i (congrArg Expr.k pY.symm)|exact .i (congrArg Expr.w pY.symm)|exact .di J1 (λy=>(oo _ y).1),trivial⟩
 ·have h':cR ((0+1:Nat):Int) 1=false:=h.out
  cases h'
theorem aoo (m:Nat) (ih:iC PP 70 (yJ 0 m)) (LW:iC PP 156 (NM 0 m)):iC PP 70 (yJ 1 m):=by
 refine mA (Kg 1 m) (fo Tryz.func70) (λa y=>rfl) (λa=>⟨rfl,rfl⟩) .nil ?_
 rintro ⟨bs,p,aN,aZ,bd,data,w⟩ hx
 obtain ⟨eM,hp,hr,ht,hm,hn,hw⟩:PN 1 ⟨bs,p,aN,aZ,bd,data,w⟩:=hx
 simp only at eM hp hr ht hm hw
 have hw:1<=w/\w+1<=8:=hw
 have cq:1<=w/\w<=8:=by omega
 have LV:KT 1=4:=rfl
 have hB:=JB eM p
 have Bc:IntKind.i64.wrap ((eo bs p).tdiv 14)=eo bs p / 14:=w6 hB.1 (by omega) (by decide)
 have sm:(eo bs p).tmod 14=eo bs p % 14:=kg hB.1
 obtain ⟨u,hu⟩:∃u,u=IntKind.i64.wrap ((eo bs p).tdiv 14):=⟨_,rfl⟩
 have pW:0<=u/\u<=255:=by rw [hu,Bc];omega
 obtain ⟨e0,pY⟩:∃e,e=uL ⟨aN,aZ,data,w⟩ u:=⟨_,rfl⟩
 have dn:lP 1 ⟨bs,p,aN,aZ,bd,data,w⟩ ⟨e0,p+1⟩:=⟨by rw [pY];exact Tm (x:=⟨bs,p,aN,aZ,bd,data,w⟩) pW.1 (by omega) cq,By _,by show p+1<=p+KT 1;omega⟩
 have jU:p<=1000000000:=by omega
 have zq:1<=1000000000:=by decide
 have J1:e0.args=[]:=by rw [pY];exact R4 pW.1 (by omega)
 refine ⟨?_⟩
 cbv
 refine ⟨⟨bs,p⟩,⟨by exact bP,⟨eM,jU⟩⟩,?_⟩
 cbv
 refine ⟨⟨bs,p,1⟩,⟨by exact bP,⟨jU,zq⟩⟩,?_⟩
 cbv
 refine ⟨⟨by decide⟩,?_⟩
 cbv
 refine ⟨λh=>?_,λh=>?_⟩
 ·have h':cR ((1+1:Nat):Int) 1=true:=h.out
  exact absurd h' (by decide)
 have xR:p+1+KT 0<=1000000:=by have:KT 0=1:=rfl;omega
 have dx:1<=w/\w+0+1<=8:=by omega
 have pZ:1<=w/\w+0<=8:=by omega
 have sX:p+1+KT 0<=p+KT 1:=by have:KT 0=1:=rfl;omega
 cbv
 refine ⟨λh=>?_,λh=>?_⟩
 ·cbv
  refine ⟨⟨by decide⟩,?_⟩
  cbv
  refine ⟨(⟨aN,aZ,data,w⟩,u),⟨.inr (by have bj:=hu.symm;exact cN),⟨hr,ht,by show 0<=w;omega,cq.2,pW.1,by show u<=1000;omega⟩⟩,?_⟩
  cbv
  refine ⟨⟨e0,p+1⟩,[],[],?_,by exact ao,⟨dn⟩⟩
  cbv
  exact ⟨by ((repeat' first|exact dT.nil|exact Le.refl _|refine dT.cons ?_ ?_|exact Le.ic rfl|exact Le.bc rfl|exact Le.i rfl|exact Le.b rfl|exact Le.sl rfl|exact Le.mp rfl|exact Le.im rfl|exact Le.rO rfl|refine Le.di rfl (λ_=>?_)|refine Le.eH rfl (λ_ _=>rfl) (λ_=>?_) ?_|refine Le.agg ?_|refine Le.dE ?_|refine Le.fn ?_ ?_|refine Le.dC ?_|exact trivial|refine And.intro ?_ ?_|refine λ_=>?_|exact Le.any _))<;>first|exact .i (congrArg Expr.op pY.symm)|exact .i (congrArg Expr.k pY.symm)|exact .i (congrArg Expr.w pY.symm)|exact .di J1 (λy=>(oo _ y).1),trivial⟩
 have my:¬eo bs p % 14 < 2:=by have h':aS ((eo bs p).tmod 14) 2=false:=h.out;rw [sm] at h';simpa [aS] using h'
 cbv
 refine ⟨λh=>?_,λh=>?_⟩
 ·cbv
  refine ⟨⟨by decide⟩,?_⟩
  cbv
  refine bU.jD LW (λa y=>oV 1 a.1 y) (⟨bs,p+1,aN,aZ,bd,data,w⟩,u) [0] rfl (by have bj:=hu.symm;exact cN) (by exact ao) ⟨⟨eM,xR,hr,ht,hm,by decide,dx,pW⟩⟩ λy hy=>?_
  have hy:uM 0 ⟨bs,p+1,aN,aZ,bd,data,w⟩ y:=hy.out
  have bV:lP 1 ⟨bs,p,aN,aZ,bd,data,w⟩ y:=⟨hy.e,Jb hy.lo,vD hy.hi sX⟩
  cbv
  refine ⟨y,[],[],?_,by exact ao,⟨bV⟩⟩
  cbv
  exact ⟨by exact aJ,trivial⟩
 have nE:eo bs p % 14≠2:=by have h':aV ((eo bs p).tmod 14) 2=false:=h.out;rw [sm] at h';simpa [aV] using h'
 cbv
 refine ⟨λh=>?_,λh=>?_⟩
 ·cbv
  refine ⟨⟨by decide⟩,?_⟩
  cbv
  refine bU.jD LW (λa y=>oV 1 a.1 y) (⟨bs,p+1,aN,aZ,bd,data,w⟩,u) [0] rfl (by have bj:=hu.symm;exact cN) (by exact ao) ⟨⟨eM,xR,hr,ht,hm,by decide,dx,pW⟩⟩ λy hy=>?_
  have hy:uM 0 ⟨bs,p+1,aN,aZ,bd,data,w⟩ y:=hy.out
  have bV:lP 1 ⟨bs,p,aN,aZ,bd,data,w⟩ y:=⟨hy.e,Jb hy.lo,vD hy.hi sX⟩
  cbv
  refine ⟨y,[],[],?_,by exact ao,⟨bV⟩⟩
  cbv
  exact ⟨by exact aJ,trivial⟩
 have QK:eo bs p % 14≠3:=by have h':aV ((eo bs p).tmod 14) 3=false:=h.out;rw [sm] at h';simpa [aV] using h'
 have gx:IntKind.i64.wrap ((eo bs p).tmod 14 - 4)=eo bs p % 14 - 4:=by rw [sm,cz (by omega) (by omega)]
 refine (adT hB my nE QK gx).elim λfm fa=>?_
 cbv
 refine ⟨(fm,[2,3,4,5,6,7,10,8,9,11]),⟨by exact aJ,rfl,fa.1,fa.2.1⟩,?_⟩
 apply BQ (λc k=>∀(op:Int) (ws:List Int),ko 0 (ij.sc ⟨bs,p,aN,aZ,bd,data,w⟩) w op ws->Sat [.own 0] false PP c (o6 1 m ⟨bs,p,aN,aZ,bd,data,w⟩ op ws) k)
 ·intro tail
  cbv
  refine ⟨λh=>?_,λh=>?_⟩
  ·have ho:fm=2:=bE
   refine (⟨_,rfl⟩:∃ws:List Int,ws=[w]).elim λws dx=>?_
   have hO:=ko.not (k:=0) (sc:=ij.sc ⟨bs,p,aN,aZ,bd,data,w⟩) pZ
   rw [<-ho,<-dx] at hO
   cbv
   exact kD 7 (o6 1 m ⟨bs,p,aN,aZ,bd,data,w⟩ fm ws) (by subst dx;exact ao) (by exact ao) (tail fm ws hO)
  have jV:fm≠2:=bE
  cbv
  refine ⟨λh=>?_,λh=>?_⟩
  ·have ho:fm=10:=bE
   refine (⟨_,rfl⟩:∃ws:List Int,ws=[1,w,w]).elim λws dx=>?_
   have hO:=ko.s5 (k:=0) (sc:=ij.sc ⟨bs,p,aN,aZ,bd,data,w⟩) pZ
   rw [<-ho,<-dx] at hO
   cbv
   exact kD 7 (o6 1 m ⟨bs,p,aN,aZ,bd,data,w⟩ fm ws) (by subst dx;exact ao) (by exact ao) (tail fm ws hO)
  have as4:fm≠10:=bE
  cbv
  refine ⟨λh=>?_,λh=>?_⟩
  ·have ho:fm=8:=bE
   cbv
   refine ⟨λh=>?_,λh=>?_⟩
   ·refine (⟨_,rfl⟩:∃ws:List Int,ws=[w,w]).elim λws dx=>?_
    have hO:=ko.two (k:=0) (sc:=ij.sc ⟨bs,p,aN,aZ,bd,data,w⟩) (op:=5) (by decide) (by decide) pZ
    rw [<-dx] at hO
    cbv
    exact kD 7 (o6 1 m ⟨bs,p,aN,aZ,bd,data,w⟩ 5 ws) (by subst dx;exact ao) (by exact ao) (tail 5 ws hO)
   ·have fB:w=1:=by
      have h':aS 1 w=false:=h.out;have:¬1 < w:=by simpa [aS] using h'
      omega
    refine (⟨_,rfl⟩:∃v:Int,v=IntKind.i64.wrap (1+(IntKind.i64.wrap ((eo bs p).tdiv 14)).tmod 3)).elim λv hv=>?_
    have wB:1<=v/\v<=3:=by
     have:=kg (k:=3) (show 0<=eo bs p / 14 by omega)
     rw [hv,Bc,this,cz (by omega) (by omega)];omega
    refine (⟨_,rfl⟩:∃ws:List Int,ws=[v,v]).elim λws dx=>?_
    have hO:=ko.cmp (k:=0) (sc:=ij.sc ⟨bs,p,aN,aZ,bd,data,w⟩) (op:=fm) (by omega) (by omega) wB.1 (by omega)
    rw [<-dx,<-fB] at hO
    cbv
    refine ⟨⟨by decide⟩,?_⟩
    cbv
    refine ⟨⟨by decide⟩,?_⟩
    cbv
    refine ⟨⟨by decide⟩,?_⟩
    cbv
    refine ⟨⟨by decide⟩,?_⟩
    cbv
    exact kD 7 (o6 1 m ⟨bs,p,aN,aZ,bd,data,w⟩ fm ws) (by subst dx;have bj:=hv.symm;exact bH) (by exact ao) (tail fm ws hO)
  have ho8:fm≠8:=bE
  cbv
  refine ⟨λh=>?_,λh=>?_⟩
  ·have ho:fm=9:=bE
   cbv
   refine ⟨λh=>?_,λh=>?_⟩
   ·refine (⟨_,rfl⟩:∃ws:List Int,ws=[w,w]).elim λws dx=>?_
    have hO:=ko.two (k:=0) (sc:=ij.sc ⟨bs,p,aN,aZ,bd,data,w⟩) (op:=5) (by decide) (by decide) pZ
    rw [<-dx] at hO
    cbv
    exact kD 7 (o6 1 m ⟨bs,p,aN,aZ,bd,data,w⟩ 5 ws) (by subst dx;exact ao) (by exact ao) (tail 5 ws hO)
   ·have fB:w=1:=by
      have h':aS 1 w=false:=h.out;have:¬1 < w:=by simpa [aS] using h'
      omega
    refine (⟨_,rfl⟩:∃v:Int,v=IntKind.i64.wrap (1+(IntKind.i64.wrap ((eo bs p).tdiv 14)).tmod 3)).elim λv hv=>?_
    have wB:1<=v/\v<=3:=by
     have:=kg (k:=3) (show 0<=eo bs p / 14 by omega)
     rw [hv,Bc,this,cz (by omega) (by omega)];omega
    refine (⟨_,rfl⟩:∃ws:List Int,ws=[v,v]).elim λws dx=>?_
    have hO:=ko.cmp (k:=0) (sc:=ij.sc ⟨bs,p,aN,aZ,bd,data,w⟩) (op:=fm) (by omega) (by omega) wB.1 (by omega)
    rw [<-dx,<-fB] at hO
    cbv
    refine ⟨⟨by decide⟩,?_⟩
    cbv
    refine ⟨⟨by decide⟩,?_⟩
    cbv
    refine ⟨⟨by decide⟩,?_⟩
    cbv
    refine ⟨⟨by decide⟩,?_⟩
    cbv
    exact kD 7 (o6 1 m ⟨bs,p,aN,aZ,bd,data,w⟩ fm ws) (by subst dx;have bj:=hv.symm;exact bH) (by exact ao) (tail fm ws hO)
  have ho9:fm≠9:=bE
  cbv
  refine ⟨λh=>?_,λh=>?_⟩
  ·have ho:fm=11:=bE
   cbv
   refine ⟨λh=>?_,λh=>?_⟩
   ·refine (⟨_,rfl⟩:∃ws:List Int,ws=[w,w]).elim λws dx=>?_
    have hO:=ko.two (k:=0) (sc:=ij.sc ⟨bs,p,aN,aZ,bd,data,w⟩) (op:=3) (by decide) (by decide) pZ
    rw [<-dx] at hO
    cbv
    exact kD 7 (o6 1 m ⟨bs,p,aN,aZ,bd,data,w⟩ 3 ws) (by subst dx;exact ao) (by exact ao) (tail 3 ws hO)
   ·have fB:w≠1:=bE
    refine (⟨_,rfl⟩:∃v:Int,v=IntKind.i64.wrap (w - 1)).elim λv hv=>?_
    have Bb:w=v+1:=by rw [hv,cz (by omega) (by omega)];omega
    refine (⟨_,rfl⟩:∃ws:List Int,ws=[v,1]).elim λws dx=>?_
    have hO:=ko.cat (k:=0) (sc:=ij.sc ⟨bs,p,aN,aZ,bd,data,w⟩) Bb cq (by omega) (by omega)
    rw [<-ho,<-dx] at hO
    cbv
    exact kD 7 (o6 1 m ⟨bs,p,aN,aZ,bd,data,w⟩ fm ws) (by subst dx;have bj:=hv.symm;exact bH) (by exact ao) (tail fm ws hO)
  ·have as5:fm≠11:=bE
   refine (⟨_,rfl⟩:∃ws:List Int,ws=[w,w]).elim λws dx=>?_
   have hO:=ko.two (k:=0) (sc:=ij.sc ⟨bs,p,aN,aZ,bd,data,w⟩) (op:=fm) (by omega) (by omega) pZ
   rw [<-dx] at hO
   cbv
   exact kD 7 (o6 1 m ⟨bs,p,aN,aZ,bd,data,w⟩ fm ws) (by subst dx;exact ao) (by exact ao) (tail fm ws hO)
 ·intro op ws hO
  have C6:=hO.len
  have Wc:=hO.wid
  have u_:IntKind.i64.wrap (((1+1:Nat):Int) - 1)=((0+1:Nat):Int):=by decide
  have LX:KT 0=1:=rfl
  refine Sat.iz 6 6 149 7 (KJ 0) (oo _) rfl rfl ?_
  refine Sat.ca (Kg 1 m) 8 13 [(.c 6 6,7)] (λx:TL=>[(13,.i .i64 λ_=>(x.i:Int))])
   (λx=>[(1,.fix 142 [.sl 1 iF (λ_=>bs),.i .i64 (λ_=>(x.q:Int))]),(6,.fix 149 [.i .i64 (λ_=>op),.str (λ_=>es),.ic .i64 0,.str (λ_=>es),.ic .i64 0,.str (λ_=>es),.own 7]),(7,.dyn 149 7 (cE 0) λ_=>x.l)])
   (λx=>Hz 0 (ij.sc ⟨bs,p,aN,aZ,bd,data,w⟩) p ws x) (λx=>ws.length - x.i) ⟨0,p+1,[]⟩ (by exact ao) (by exact ao) ⟨cJ _,trivial,cP _,cP _⟩ ?_
  rintro ⟨i,q,l⟩ hJ
  have hJ:Hz 0 (ij.sc ⟨bs,p,aN,aZ,bd,data,w⟩) p ws ⟨i,q,l⟩:=hJ
  obtain ⟨hi,hl,oH,LY⟩:=hJ
  simp only at hi hl oH LY
  have lW:l.length<=3:=by have:=hl.len;rw [lu] at this;omega
  have h0:=n0 i
  have h1:=cd (i:=i) (by omega)
  cbv
  refine ⟨λh=>?_,λh=>?_⟩
  ·(have h:=h.out;simp (disch:=exact aU) only [hS] at h)
   have bp:i < ws.length:=by exact aU
   have a7:ws.length - (i+1) < ws.length - i:=by omega
   obtain ⟨v,hv⟩:=bz bp
   have Bb:=Wc v (b_ hv)
   have hmul:=Ns (KT 0) i 1
   have XX:q+KT 0<=1000000:=by rw [LX] at *;omega
   cbv
   refine ⟨v,⟨h0,hv⟩,?_⟩
   cbv
   refine bU.jD ih (λa y=>oV 0 a y) ⟨bs,q,aN,aZ,bd,data,v⟩ [0] rfl (by have bj:=u_;exact cN) (by exact ao) ⟨⟨eM,XX,hr,ht,hm,by decide,Bb⟩⟩ λy hy=>?_
   have hy:lP 0 ⟨bs,q,aN,aZ,bd,data,v⟩ y:=hy.out
   have bw:Hz 0 (ij.sc ⟨bs,p,aN,aZ,bd,data,w⟩) p ws ⟨i+1,y.p,l++[y.e]⟩:=⟨bp,hl.add hv hy.e,vD oH hy.lo,by have h2:y.p<=q+KT 0:=hy.hi;show y.p<=p+1+KT 0*(i+1);omega⟩
   cbv
   refine ⟨[y.e],⟨.eH rfl (λ_ _=>rfl) (λx=>(oo 0 x).1) (by exact aJ),by show (l.length+1)*96<=_;omega,by show l.length+1<=_;omega⟩,?_⟩
   cbv
   exact ⟨⟨i+1,y.p,l++[y.e]⟩,by have bj:=h1;exact bH,by exact ao,⟨⟨bw,a7⟩⟩⟩
  ·(have h:=h.out;simp (disch:=exact aU) only [hS] at h)
   have bR:i=ws.length:=by exact aU
   have gv:nB (ij.sc ⟨bs,p,aN,aZ,bd,data,w⟩) (0+1) ws l:=by rw [bR,kh] at hl;exact hl
   have hmul:=I_ (KT 0) (show i<=3 by omega)
   have bV:lP 1 ⟨bs,p,aN,aZ,bd,data,w⟩ ⟨.mk op 0 0 l,q⟩:=⟨hO.ex l gv,vD (By p) oH,by show q<=p+KT 1;rw [LX] at *;rw [LV];omega⟩
   cbv
   refine ⟨⟨.mk op 0 0 l,q⟩,[7],[],?_,by exact ao,⟨bV⟩⟩
   cbv
   exact ⟨by exact aJ,trivial⟩
theorem aop (m:Nat) (ih:iC PP 70 (yJ 1 m)) (LW:iC PP 156 (NM 1 m)):iC PP 70 (yJ 2 m):=by
 refine mA (Kg 2 m) (fo Tryz.func70) (λa y=>rfl) (λa=>⟨rfl,rfl⟩) .nil ?_
 rintro ⟨bs,p,aN,aZ,bd,data,w⟩ hx
 obtain ⟨eM,hp,hr,ht,hm,hn,hw⟩:PN 2 ⟨bs,p,aN,aZ,bd,data,w⟩:=hx
 simp only at eM hp hr ht hm hw
 have hw:1<=w/\w+2<=8:=hw
 have cq:1<=w/\w<=8:=by omega
 have LV:KT 2=13:=rfl
 have hB:=JB eM p
 have Bc:IntKind.i64.wrap ((eo bs p).tdiv 14)=eo bs p / 14:=w6 hB.1 (by omega) (by decide)
 have sm:(eo bs p).tmod 14=eo bs p % 14:=kg hB.1
 obtain ⟨u,hu⟩:∃u,u=IntKind.i64.wrap ((eo bs p).tdiv 14):=⟨_,rfl⟩
 have pW:0<=u/\u<=255:=by rw [hu,Bc];omega
 obtain ⟨e0,pY⟩:∃e,e=uL ⟨aN,aZ,data,w⟩ u:=⟨_,rfl⟩
 have dn:lP 2 ⟨bs,p,aN,aZ,bd,data,w⟩ ⟨e0,p+1⟩:=⟨by rw [pY];exact Tm (x:=⟨bs,p,aN,aZ,bd,data,w⟩) pW.1 (by omega) cq,By _,by show p+1<=p+KT 2;omega⟩
 have jU:p<=1000000000:=by omega
 have zq:1<=1000000000:=by decide
 have J1:e0.args=[]:=by rw [pY];exact R4 pW.1 (by omega)
 refine ⟨?_⟩
 cbv
 refine ⟨⟨bs,p⟩,⟨by exact bP,⟨eM,jU⟩⟩,?_⟩
 cbv
 refine ⟨⟨bs,p,1⟩,⟨by exact bP,⟨jU,zq⟩⟩,?_⟩
 cbv
 refine ⟨⟨by decide⟩,?_⟩
 cbv
 refine ⟨λh=>?_,λh=>?_⟩
 ·have h':cR ((2+1:Nat):Int) 1=true:=h.out
  exact absurd h' (by decide)
 have xR:p+1+KT 1<=1000000:=by have:KT 1=4:=rfl;omega
 have dx:1<=w/\w+1+1<=8:=by omega
 have pZ:1<=w/\w+1<=8:=by omega
 have sX:p+1+KT 1<=p+KT 2:=by have:KT 1=4:=rfl;omega
 cbv
 refine ⟨λh=>?_,λh=>?_⟩
 ·cbv
  refine ⟨⟨by decide⟩,?_⟩
  cbv
  refine ⟨(⟨aN,aZ,data,w⟩,u),⟨.inr (by have bj:=hu.symm;exact cN),⟨hr,ht,by show 0<=w;omega,cq.2,pW.1,by show u<=1000;omega⟩⟩,?_⟩
  cbv
  refine ⟨⟨e0,p+1⟩,[],[],?_,by exact ao,⟨dn⟩⟩
  cbv
  exact ⟨by ((repeat' first|exact dT.nil|exact Le.refl _|refine dT.cons ?_ ?_|exact Le.ic rfl|exact Le.bc rfl|exact Le.i rfl|exact Le.b rfl|exact Le.sl rfl|exact Le.mp rfl|exact Le.im rfl|exact Le.rO rfl|refine Le.di rfl (λ_=>?_)|refine Le.eH rfl (λ_ _=>rfl) (λ_=>?_) ?_|refine Le.agg ?_|refine Le.dE ?_|refine Le.fn ?_ ?_|refine Le.dC ?_|exact trivial|refine And.intro ?_ ?_|refine λ_=>?_|exact Le.any _))<;>first|exact .i (congrArg Expr.op pY.symm)|exact .i (congrArg Expr.k pY.symm)|exact .i (congrArg Expr.w pY.symm)|exact .di J1 (λy=>(oo _ y).1),trivial⟩
 have my:¬eo bs p % 14 < 2:=by have h':aS ((eo bs p).tmod 14) 2=false:=h.out;rw [sm] at h';simpa [aS] using h'
 cbv
 refine ⟨λh=>?_,λh=>?_⟩
 ·cbv
  refine ⟨⟨by decide⟩,?_⟩
  cbv
  refine bU.jD LW (λa y=>oV 2 a.1 y) (⟨bs,p+1,aN,aZ,bd,data,w⟩,u) [0] rfl (by have bj:=hu.symm;exact cN) (by exact ao) ⟨⟨eM,xR,hr,ht,hm,by decide,dx,pW⟩⟩ λy hy=>?_
  have hy:uM 1 ⟨bs,p+1,aN,aZ,bd,data,w⟩ y:=hy.out
  have bV:lP 2 ⟨bs,p,aN,aZ,bd,data,w⟩ y:=⟨hy.e,Jb hy.lo,vD hy.hi sX⟩
  cbv
  refine ⟨y,[],[],?_,by exact ao,⟨bV⟩⟩
  cbv
  exact ⟨by exact aJ,trivial⟩
 have nE:eo bs p % 14≠2:=by have h':aV ((eo bs p).tmod 14) 2=false:=h.out;rw [sm] at h';simpa [aV] using h'
 cbv
 refine ⟨λh=>?_,λh=>?_⟩
 ·cbv
  refine ⟨⟨by decide⟩,?_⟩
  cbv
  refine bU.jD LW (λa y=>oV 2 a.1 y) (⟨bs,p+1,aN,aZ,bd,data,w⟩,u) [0] rfl (by have bj:=hu.symm;exact cN) (by exact ao) ⟨⟨eM,xR,hr,ht,hm,by decide,dx,pW⟩⟩ λy hy=>?_
  have hy:uM 1 ⟨bs,p+1,aN,aZ,bd,data,w⟩ y:=hy.out
  have bV:lP 2 ⟨bs,p,aN,aZ,bd,data,w⟩ y:=⟨hy.e,Jb hy.lo,vD hy.hi sX⟩
  cbv
  refine ⟨y,[],[],?_,by exact ao,⟨bV⟩⟩
  cbv
  exact ⟨by exact aJ,trivial⟩
 have QK:eo bs p % 14≠3:=by have h':aV ((eo bs p).tmod 14) 3=false:=h.out;rw [sm] at h';simpa [aV] using h'
 have gx:IntKind.i64.wrap ((eo bs p).tmod 14 - 4)=eo bs p % 14 - 4:=by rw [sm,cz (by omega) (by omega)]
 refine (adT hB my nE QK gx).elim λfm fa=>?_
 cbv
 refine ⟨(fm,[2,3,4,5,6,7,10,8,9,11]),⟨by exact aJ,rfl,fa.1,fa.2.1⟩,?_⟩
 apply BQ (λc k=>∀(op:Int) (ws:List Int),ko 1 (ij.sc ⟨bs,p,aN,aZ,bd,data,w⟩) w op ws->Sat [.own 0] false PP c (o6 2 m ⟨bs,p,aN,aZ,bd,data,w⟩ op ws) k)
 ·intro tail
  cbv
  refine ⟨λh=>?_,λh=>?_⟩
  ·have ho:fm=2:=bE
   refine (⟨_,rfl⟩:∃ws:List Int,ws=[w]).elim λws dx=>?_
   have hO:=ko.not (k:=1) (sc:=ij.sc ⟨bs,p,aN,aZ,bd,data,w⟩) pZ
   rw [<-ho,<-dx] at hO
   cbv
   exact kD 7 (o6 2 m ⟨bs,p,aN,aZ,bd,data,w⟩ fm ws) (by subst dx;exact ao) (by exact ao) (tail fm ws hO)
  have jV:fm≠2:=bE
  cbv
  refine ⟨λh=>?_,λh=>?_⟩
  ·have ho:fm=10:=bE
   refine (⟨_,rfl⟩:∃ws:List Int,ws=[1,w,w]).elim λws dx=>?_
   have hO:=ko.s5 (k:=1) (sc:=ij.sc ⟨bs,p,aN,aZ,bd,data,w⟩) pZ
   rw [<-ho,<-dx] at hO
   cbv
   exact kD 7 (o6 2 m ⟨bs,p,aN,aZ,bd,data,w⟩ fm ws) (by subst dx;exact ao) (by exact ao) (tail fm ws hO)
  have as4:fm≠10:=bE
  cbv
  refine ⟨λh=>?_,λh=>?_⟩
  ·have ho:fm=8:=bE
   cbv
   refine ⟨λh=>?_,λh=>?_⟩
   ·refine (⟨_,rfl⟩:∃ws:List Int,ws=[w,w]).elim λws dx=>?_
    have hO:=ko.two (k:=1) (sc:=ij.sc ⟨bs,p,aN,aZ,bd,data,w⟩) (op:=5) (by decide) (by decide) pZ
    rw [<-dx] at hO
    cbv
    exact kD 7 (o6 2 m ⟨bs,p,aN,aZ,bd,data,w⟩ 5 ws) (by subst dx;exact ao) (by exact ao) (tail 5 ws hO)
   ·have fB:w=1:=by
      have h':aS 1 w=false:=h.out;have:¬1 < w:=by simpa [aS] using h'
      omega
    refine (⟨_,rfl⟩:∃v:Int,v=IntKind.i64.wrap (1+(IntKind.i64.wrap ((eo bs p).tdiv 14)).tmod 3)).elim λv hv=>?_
    have wB:1<=v/\v<=3:=by
     have:=kg (k:=3) (show 0<=eo bs p / 14 by omega)
     rw [hv,Bc,this,cz (by omega) (by omega)];omega
    refine (⟨_,rfl⟩:∃ws:List Int,ws=[v,v]).elim λws dx=>?_
    have hO:=ko.cmp (k:=1) (sc:=ij.sc ⟨bs,p,aN,aZ,bd,data,w⟩) (op:=fm) (by omega) (by omega) wB.1 (by omega)
    rw [<-dx,<-fB] at hO
    cbv
    refine ⟨⟨by decide⟩,?_⟩
    cbv
    refine ⟨⟨by decide⟩,?_⟩
    cbv
    refine ⟨⟨by decide⟩,?_⟩
    cbv
    refine ⟨⟨by decide⟩,?_⟩
    cbv
    exact kD 7 (o6 2 m ⟨bs,p,aN,aZ,bd,data,w⟩ fm ws) (by subst dx;have bj:=hv.symm;exact bH) (by exact ao) (tail fm ws hO)
  have ho8:fm≠8:=bE
  cbv
  refine ⟨λh=>?_,λh=>?_⟩
  ·have ho:fm=9:=bE
   cbv
   refine ⟨λh=>?_,λh=>?_⟩
   ·refine (⟨_,rfl⟩:∃ws:List Int,ws=[w,w]).elim λws dx=>?_
    have hO:=ko.two (k:=1) (sc:=ij.sc ⟨bs,p,aN,aZ,bd,data,w⟩) (op:=5) (by decide) (by decide) pZ
    rw [<-dx] at hO
    cbv
    exact kD 7 (o6 2 m ⟨bs,p,aN,aZ,bd,data,w⟩ 5 ws) (by subst dx;exact ao) (by exact ao) (tail 5 ws hO)
   ·have fB:w=1:=by
      have h':aS 1 w=false:=h.out;have:¬1 < w:=by simpa [aS] using h'
      omega
    refine (⟨_,rfl⟩:∃v:Int,v=IntKind.i64.wrap (1+(IntKind.i64.wrap ((eo bs p).tdiv 14)).tmod 3)).elim λv hv=>?_
    have wB:1<=v/\v<=3:=by
     have:=kg (k:=3) (show 0<=eo bs p / 14 by omega)
     rw [hv,Bc,this,cz (by omega) (by omega)];omega
    refine (⟨_,rfl⟩:∃ws:List Int,ws=[v,v]).elim λws dx=>?_
    have hO:=ko.cmp (k:=1) (sc:=ij.sc ⟨bs,p,aN,aZ,bd,data,w⟩) (op:=fm) (by omega) (by omega) wB.1 (by omega)
    rw [<-dx,<-fB] at hO
    cbv
    refine ⟨⟨by decide⟩,?_⟩
    cbv
    refine ⟨⟨by decide⟩,?_⟩
    cbv
    refine ⟨⟨by decide⟩,?_⟩
    cbv
    refine ⟨⟨by decide⟩,?_⟩
    cbv
    exact kD 7 (o6 2 m ⟨bs,p,aN,aZ,bd,data,w⟩ fm ws) (by subst dx;have bj:=hv.symm;exact bH) (by exact ao) (tail fm ws hO)
  have ho9:fm≠9:=bE
  cbv
  refine ⟨λh=>?_,λh=>?_⟩
  ·have ho:fm=11:=bE
   cbv
   refine ⟨λh=>?_,λh=>?_⟩
   ·refine (⟨_,rfl⟩:∃ws:List Int,ws=[w,w]).elim λws dx=>?_
    have hO:=ko.two (k:=1) (sc:=ij.sc ⟨bs,p,aN,aZ,bd,data,w⟩) (op:=3) (by decide) (by decide) pZ
    rw [<-dx] at hO
    cbv
    exact kD 7 (o6 2 m ⟨bs,p,aN,aZ,bd,data,w⟩ 3 ws) (by subst dx;exact ao) (by exact ao) (tail 3 ws hO)
   ·have fB:w≠1:=bE
    refine (⟨_,rfl⟩:∃v:Int,v=IntKind.i64.wrap (w - 1)).elim λv hv=>?_
    have Bb:w=v+1:=by rw [hv,cz (by omega) (by omega)];omega
    refine (⟨_,rfl⟩:∃ws:List Int,ws=[v,1]).elim λws dx=>?_
    have hO:=ko.cat (k:=1) (sc:=ij.sc ⟨bs,p,aN,aZ,bd,data,w⟩) Bb cq (by omega) (by omega)
    rw [<-ho,<-dx] at hO
    cbv
    exact kD 7 (o6 2 m ⟨bs,p,aN,aZ,bd,data,w⟩ fm ws) (by subst dx;have bj:=hv.symm;exact bH) (by exact ao) (tail fm ws hO)
  ·have as5:fm≠11:=bE
   refine (⟨_,rfl⟩:∃ws:List Int,ws=[w,w]).elim λws dx=>?_
   have hO:=ko.two (k:=1) (sc:=ij.sc ⟨bs,p,aN,aZ,bd,data,w⟩) (op:=fm) (by omega) (by omega) pZ
   rw [<-dx] at hO
   cbv
   exact kD 7 (o6 2 m ⟨bs,p,aN,aZ,bd,data,w⟩ fm ws) (by subst dx;exact ao) (by exact ao) (tail fm ws hO)
 ·intro op ws hO
  have C6:=hO.len
  have Wc:=hO.wid
  have u_:IntKind.i64.wrap (((2+1:Nat):Int) - 1)=((1+1:Nat):Int):=by decide
  have LX:KT 1=4:=rfl
  refine Sat.iz 6 6 149 7 (KJ 1) (oo _) rfl rfl ?_
  refine Sat.ca (Kg 2 m) 8 13 [(.c 6 6,7)] (λx:TL=>[(13,.i .i64 λ_=>(x.i:Int))])
   (λx=>[(1,.fix 142 [.sl 1 iF (λ_=>bs),.i .i64 (λ_=>(x.q:Int))]),(6,.fix 149 [.i .i64 (λ_=>op),.str (λ_=>es),.ic .i64 0,.str (λ_=>es),.ic .i64 0,.str (λ_=>es),.own 7]),(7,.dyn 149 7 (cE 1) λ_=>x.l)])
   (λx=>Hz 1 (ij.sc ⟨bs,p,aN,aZ,bd,data,w⟩) p ws x) (λx=>ws.length - x.i) ⟨0,p+1,[]⟩ (by exact ao) (by exact ao) ⟨cJ _,trivial,cP _,cP _⟩ ?_
  rintro ⟨i,q,l⟩ hJ
  have hJ:Hz 1 (ij.sc ⟨bs,p,aN,aZ,bd,data,w⟩) p ws ⟨i,q,l⟩:=hJ
  obtain ⟨hi,hl,oH,LY⟩:=hJ
  simp only at hi hl oH LY
  have lW:l.length<=3:=by have:=hl.len;rw [lu] at this;omega
  have h0:=n0 i
  have h1:=cd (i:=i) (by omega)
  cbv
  refine ⟨λh=>?_,λh=>?_⟩
  ·(have h:=h.out;simp (disch:=exact aU) only [hS] at h)
   have bp:i < ws.length:=by exact aU
   have a7:ws.length - (i+1) < ws.length - i:=by omega
   obtain ⟨v,hv⟩:=bz bp
   have Bb:=Wc v (b_ hv)
   have hmul:=Ns (KT 1) i 1
   have XX:q+KT 1<=1000000:=by rw [LX] at *;omega
   cbv
   refine ⟨v,⟨h0,hv⟩,?_⟩
   cbv
   refine bU.jD ih (λa y=>oV 1 a y) ⟨bs,q,aN,aZ,bd,data,v⟩ [0] rfl (by have bj:=u_;exact cN) (by exact ao) ⟨⟨eM,XX,hr,ht,hm,by decide,Bb⟩⟩ λy hy=>?_
   have hy:lP 1 ⟨bs,q,aN,aZ,bd,data,v⟩ y:=hy.out
   have bw:Hz 1 (ij.sc ⟨bs,p,aN,aZ,bd,data,w⟩) p ws ⟨i+1,y.p,l++[y.e]⟩:=⟨bp,hl.add hv hy.e,vD oH hy.lo,by have h2:y.p<=q+KT 1:=hy.hi;show y.p<=p+1+KT 1*(i+1);omega⟩
   cbv
   refine ⟨[y.e],⟨.eH rfl (λ_ _=>rfl) (λx=>(oo 1 x).1) (by exact aJ),by show (l.length+1)*96<=_;omega,by show l.length+1<=_;omega⟩,?_⟩
   cbv
   exact ⟨⟨i+1,y.p,l++[y.e]⟩,by have bj:=h1;exact bH,by exact ao,⟨⟨bw,a7⟩⟩⟩
  ·(have h:=h.out;simp (disch:=exact aU) only [hS] at h)
   have bR:i=ws.length:=by exact aU
   have gv:nB (ij.sc ⟨bs,p,aN,aZ,bd,data,w⟩) (1+1) ws l:=by rw [bR,kh] at hl;exact hl
   have hmul:=I_ (KT 1) (show i<=3 by omega)
   have bV:lP 2 ⟨bs,p,aN,aZ,bd,data,w⟩ ⟨.mk op 0 0 l,q⟩:=⟨hO.ex l gv,vD (By p) oH,by show q<=p+KT 2;rw [LX] at *;rw [LV];omega⟩
   cbv
   refine ⟨⟨.mk op 0 0 l,q⟩,[7],[],?_,by exact ao,⟨bV⟩⟩
   cbv
   exact ⟨by exact aJ,trivial⟩
theorem Ut (m:Nat):iC PP 70 (yJ 0 m):=aon m
theorem G3 (m:Nat):iC PP 70 (yJ 1 m):=aoo m (Ut m) (aml m (Ut m))
theorem apx (m:Nat):iC PP 70 (yJ 2 m):=aop m (G3 m) (amm m (G3 m))
def O6:List ByteArray:=[⟨#[97]⟩,⟨#[98]⟩,⟨#[99,48]⟩,⟨#[119]⟩,⟨#[120,49,121]⟩,⟨#[116,111,112]⟩,⟨#[122,57]⟩,⟨#[109]⟩]
theorem acV:∃f:Int->ByteArray,∀n,f n=O6.getD (n.tmod 8).toNat es:=⟨_,λ_=>rfl⟩
noncomputable def AF:Int->ByteArray:=Classical.choose acV
theorem amn (n:Int):AF n=O6.getD (n.tmod 8).toNat es:=w_ acV n
theorem TU {n:Int} (h0:0<=n):0<=n.tmod 8/\O6[(n.tmod 8).toNat]?=some (AF n)/\(AF n).size<=3:=by
 rw [amn,kg h0]
 have:n % 8=0\/n % 8=1\/n % 8=2\/n % 8=3\/n % 8=4\/n % 8=5\/n % 8=6\/n % 8=7:=by omega
 rcases this with h|h|h|h|h|h|h|h<;>rw [h]<;>exact ⟨by decide,rfl,by decide⟩
@[reducible] noncomputable def ae1:Vc.Spec where
 α:=Int
 args x:=[.i .i64 (λ_=>x)]
 pre x:=0<=x
 res x:=.str (λ_=>AF x)
theorem aoq:cS (PP ()) 152 ae1:=by
 refine dP (iJ 0 0) (fo Tryz.func152) (λa=>⟨trivial,trivial⟩) (λa=>trivial) ?_
 intro n hn
 have hn:0<=n:=hn
 have iD:=TU hn
 obtain ⟨s,hs⟩:∃s,s=AF n:=⟨_,rfl⟩
 rw [<-hs] at iD
 obtain ⟨L,hL⟩:∃L,L=O6:=⟨_,rfl⟩
 have hl8:L.length=8:=by rw [hL];rfl
 rw [<-hL] at iD
 refine ⟨?_⟩
 cbv
 refine ⟨⟨by decide⟩,?_⟩
 cbv
 refine ⟨(s,L),⟨by subst hL;exact .cons (.str rfl) (.cons (.str rfl) (.cons (.str rfl) (.cons (.str rfl) (.cons (.str rfl) (.cons (.str rfl) (.cons (.str rfl) (.cons (.str rfl) .nil))))))),hl8,iD.1,iD.2.1⟩,?_⟩
 cbv
 exact ⟨.str hs⟩
theorem acW:∃f:Int->ByteArray->nq,∀b s,f b s=if b % 4=1 then ⟨1,es,0⟩ else if b % 4=2 then ⟨2,s,0⟩ else if b % 4=3 then ⟨3,s,(IntKind.i64.wrap (b.tdiv 4)).tmod 5⟩ else ⟨0,es,0⟩:=⟨_,λ_ _=>rfl⟩
noncomputable def O7:Int->ByteArray->nq:=Classical.choose acW
theorem amo (b:Int) (s:ByteArray):O7 b s=if b % 4=1 then ⟨1,es,0⟩ else if b % 4=2 then ⟨2,s,0⟩ else if b % 4=3 then ⟨3,s,(IntKind.i64.wrap (b.tdiv 4)).tmod 5⟩ else ⟨0,es,0⟩:=w_ acW b s
@[reducible] noncomputable def ae2:Vc.Spec where
 α:=Int × ByteArray
 args x:=[.i .i64 (λ_=>x.1),.str (λ_=>x.2)]
 pre x:=0<=x.1
 res x:=.agg (uK (O7 x.1 x.2))
theorem aor:cS (PP ()) 153 ae2:=by
 refine dP (iJ 0 0) (fo Tryz.func153) (λa=>⟨trivial,trivial,trivial⟩) (λa=>⟨trivial,trivial,trivial,trivial⟩) ?_
 rintro ⟨b,s⟩ hb
 have hb:0<=b:=hb
 have hm:=kg (k:=4) hb
 have hd:=amo b s
 refine ⟨?_⟩
 cbv
 refine ⟨⟨by decide⟩,?_⟩
 cbv
 refine ⟨λh=>?_,λh=>?_⟩
 ·have h4:b % 4=1:=by have h':aV (b.tmod 4) 1=true:=h.out;rw [hm] at h';simpa [aV] using h'
  rw [if_pos h4] at hd
  cbv
  exact ⟨.agg (.cons (.ic (congrArg nq.kind hd).symm) (.cons (.str (congrArg nq.src hd).symm) (.cons (.ic (congrArg nq.n hd).symm) .nil)))⟩
 have h41:¬b % 4=1:=by have h':aV (b.tmod 4) 1=false:=h.out;rw [hm] at h';simpa [aV] using h'
 rw [if_neg h41] at hd
 cbv
 refine ⟨λh=>?_,λh=>?_⟩
 ·have h4:b % 4=2:=by have h':aV (b.tmod 4) 2=true:=h.out;rw [hm] at h';simpa [aV] using h'
  rw [if_pos h4] at hd
  cbv
  exact ⟨.agg (.cons (.ic (congrArg nq.kind hd).symm) (.cons (.str (congrArg nq.src hd).symm) (.cons (.ic (congrArg nq.n hd).symm) .nil)))⟩
 have h42:¬b % 4=2:=by have h':aV (b.tmod 4) 2=false:=h.out;rw [hm] at h';simpa [aV] using h'
 rw [if_neg h42] at hd
 cbv
 refine ⟨λh=>?_,λh=>?_⟩
 ·have h4:b % 4=3:=by have h':aV (b.tmod 4) 3=true:=h.out;rw [hm] at h';simpa [aV] using h'
  rw [if_pos h4] at hd
  cbv
  refine ⟨⟨by decide⟩,?_⟩
  cbv
  refine ⟨⟨by decide⟩,?_⟩
  cbv
  exact ⟨.agg (.cons (.ic (congrArg nq.kind hd).symm) (.cons (.str (congrArg nq.src hd).symm) (.cons (.i (congrArg nq.n hd).symm) .nil)))⟩
 ·have h43:¬b % 4=3:=by have h':aV (b.tmod 4) 3=false:=h.out;rw [hm] at h';simpa [aV] using h'
  rw [if_neg h43] at hd
  cbv
  exact ⟨.agg (.cons (.ic (congrArg nq.kind hd).symm) (.cons (.str (congrArg nq.src hd).symm) (.cons (.ic (congrArg nq.n hd).symm) .nil)))⟩
structure HA where
 b:List Int
 p:Nat
 aN:List Int
 aZ:List Int
 bd:List Mem
 data:Bool
def HA.sc (x:HA):Sc:=⟨x.aN,x.aZ,x.bd.map λm=>(m.w,m.words),x.data⟩
structure agE (x:HA):Prop where
 b:qp x.b
 p:x.p+10<=1000000
 aN:x.aN.length<=1000
 aZ:x.aZ.length<=1000
 bd:x.bd.length<=1000
structure Hb (x:HA) (y:Ct):Prop where
 e:WT x.sc 2 1 y.e
 lo:x.p<=y.p
 hi:y.p<=x.p+10
@[reducible] noncomputable def aqW (m:Nat):mP where
 α:=HA
 args x:=[.agg [.sl 1 iF (λ_=>x.b),.i .i64 (λ_=>(x.p:Int))],.agg [.sl 1 bJ (λ_=>x.aN),.sl 1 bJ (λ_=>x.aZ),.own 0,.b (λ_=>x.data)]]
 io x:=[.dyn 163 27 (rZ m) (λ_=>x.bd)]
 pre x:=agE x
 β:=Ct
 post x y:=Hb x y
 mv:=[]
 res x y:=.agg (cE 1 y.e++[.sl 1 iF (λ_=>x.b),.i .i64 (λ_=>(y.p:Int))])
 j8 x y:=[.dyn 163 27 (rZ m) (λ_=>x.bd)]
noncomputable def cWh (n m:Nat):Ctx:=fl n m [(70,Tryz.f70)] [(71,O4),(72,QI),(154,TT)] [70]
theorem aqX (n m:Nat):CB PP (cWh n m):=fy n m ⟨fo Tryz.func70,trivial⟩ ⟨TS,UZ,aaR,trivial⟩
theorem TV (m:Nat):iC PP 69 (aqW m):=by
 refine mA (aqX 1 m) (fo Tryz.func69) (λa y=>rfl) (λa=>⟨rfl,rfl⟩) .nil ?_
 rintro ⟨bs,p,aN,aZ,bd,data⟩ hx
 obtain ⟨eM,hp,hr,ht,hm⟩:agE ⟨bs,p,aN,aZ,bd,data⟩:=hx
 simp only at eM hp hr ht hm
 have hB:=JB eM p
 have jU:p<=1000000000:=by omega
 have zq:1<=1000000000:=by decide
 have LV:KT 1=4:=rfl
 have vb:p+1+KT 1<=1000000:=by omega
 obtain ⟨q,hq⟩:∃q,q=EZ 1 1:=⟨_,rfl⟩
 have aqY:Hb ⟨bs,p,aN,aZ,bd,data⟩ ⟨.mk 1 q 1 [],p+1⟩:=⟨.const ⟨by decide,by decide⟩,By _,by show p+1<=p+10;omega⟩
 refine ⟨?_⟩
 cbv
 refine ⟨⟨bs,p⟩,⟨by exact bP,⟨eM,jU⟩⟩,?_⟩
 cbv
 refine ⟨⟨by decide⟩,?_⟩
 cbv
 refine ⟨λh=>?_,λh=>?_⟩
 ·cbv
  refine ⟨(1,1),⟨by exact bP,by decide⟩,?_⟩
  cbv
  refine ⟨⟨bs,p,1⟩,⟨by exact bP,⟨jU,zq⟩⟩,?_⟩
  cbv
  refine ⟨⟨.mk 1 q 1 [],p+1⟩,[],[],?_,by exact ao,⟨aqY⟩⟩
  cbv
  exact ⟨by have bj:=hq.symm;exact dv,trivial⟩
 ·cbv
  refine ⟨⟨bs,p,1⟩,⟨by exact bP,⟨jU,zq⟩⟩,?_⟩
  cbv
  refine bU.jD (G3 m) (λa y=>oV 1 a y) ⟨bs,p+1,aN,aZ,bd,data,1⟩ [0] rfl (by exact bP) (by exact ao) ⟨⟨eM,vb,hr,ht,hm,by decide,(by show (1:Int)<=1/\(1:Int)+1<=8;decide)⟩⟩ λy hy=>?_
  have hy:lP 1 ⟨bs,p+1,aN,aZ,bd,data,1⟩ y:=hy.out
  have bV:Hb ⟨bs,p,aN,aZ,bd,data⟩ y:=⟨hy.e,Jb hy.lo,by have h2:y.p<=p+1+KT 1:=hy.hi;show y.p<=p+10;omega⟩
  cbv
  refine ⟨y,[],[],?_,by exact ao,⟨bV⟩⟩
  cbv
  exact ⟨by exact aJ,trivial⟩
end Go.Proofs.Pk
