import Derived.Test.YthnhbemmlfaihaaGreatT19
import Derived.Test.YthnhbemmlfaihaaGreatT27
import Derived.Test.YthnhbemmlfaihaaGreatT28
set_option linter.unusedVariables false
set_option linter.unusedSimpArgs false
set_option maxRecDepth 10000
set_option maxHeartbeats 64000000
namespace Go.Proofs.Pk
open Go Go.Vc
theorem WT.adV {sc:Sc} {w:Int} {e:Expr} (h:WT sc 1 w e):e.args=[]:=by
 obtain ⟨ws,hs⟩:=h.args
 cases he:e.args with
 | nil=>rfl
 | cons x r =>
  rw [he] at hs
  cases ws with
  | nil=>exact hs.elim
  | cons v ws=>exact nomatch hs.1
theorem AH {sc:Sc}:∀(n:Nat) {w:Int} {e:Expr},WT sc (n+1) w e->Le (cA n e) (cA (n+1) e)
 | 0,w,e,h=>.di h.adV (λy=>(oo 0 y).1)
 | n+1,w,e,h=>by
  obtain ⟨ws,hs⟩:=h.args
  refine .Xd rfl (λy=>(oo (n+1) y).1) λj x y hx hy=>?_
  have hx:e.args[j]?=some x:=hx
  have hy:e.args[j]?=some y:=hy
  rw [hx] at hy
  cases hy
  obtain ⟨v,_,hv⟩:=hs.get j x hx
  exact .cons (.refl _) (.cons (.refl _) (.cons (.refl _) (.cons (.refl _) (.cons (.refl _) (.cons (.refl _) (.cons (AH n hv) .nil))))))
structure n5 where
 r:List Int
 t:List Int
 m:List (Int × Int)
def n5.sc (x:n5) (d:Bool):Sc:=⟨x.r,x.t,x.m,d⟩
structure Cv (x:n5) (i:Nat) (l:List Take):Prop where
 w:l.map (·.w)=x.t
 len:l.length<=2
 all:∀(j:Nat) (t:Take),l[j]?=some t->1<=t.w/\t.w<=2/\(j < i->WT (x.sc false) 3 1 t.cond)
structure Cw (x:n5) (i:Nat) (l:List s4):Prop where
 w:l.map (·.w)=x.r
 len:l.length<=3
 all:∀(j:Nat) (t:s4),l[j]?=some t->1<=t.w/\t.w<=3/\(j < i->WT (x.sc true) 3 t.w t.next)
structure Cx (x:n5) (i:Nat) (l:List rC):Prop where
 len:l.length<=2
 all:∀(j:Nat) (t:rC),l[j]?=some t->1<=t.w/\t.w<=2/\(j < i->WT (x.sc true) 3 1 t.cond/\WT (x.sc true) 3 t.w t.data)
structure Cy (x:n5) (i:Nat) (l:List Mem):Prop where
 w:l.map (λm=>(m.w,m.words))=x.m
 len:l.length<=1
 all:∀(j:Nat) (t:Mem),l[j]?=some t->1<=t.w/\t.w<=2/\1<=t.words/\t.words<=4/\(j < i->WT (x.sc true) 3 1 t.en/\(∃v,WT (x.sc true) 3 v t.ad)/\WT (x.sc true) 3 t.w t.da)
theorem MW {A B:Type} (f:A->B):∀{l:List A} {i:Nat} {t t':A},l[i]?=some t->f t'=f t->(l.set i t').map f=l.map f
 | [],i,t,t',h,_=>by simp at h
 | x :: r,0,t,t',h,hf=>by simp at h;subst h;simp [hf]
 | x :: r,i+1,t,t',h,hf=>by
  simp only [Gd,lM]
  rw [MW f (l:=r) (by simpa using h) hf]
theorem OE {A:Type} {l:List A} {i j:Nat} {t t':A} (h:(l.set i t')[j]?=some t):(j=i/\t=t')\/(j≠i/\l[j]?=some t):=by
 rw [iT] at h
 split at h
 ·rename_i e
  split at h
  ·simp at h;exact .inl ⟨e.symm,h.symm⟩
  ·cases h
 ·rename_i e;exact .inr ⟨λh=>e h.symm,h⟩
theorem Cv.set {x:n5} {i:Nat} {l:List Take} (h:Cv x i l) {t:Take} (ht:l[i]?=some t) {e:Expr} (he:WT (x.sc false) 3 1 e):Cv x (i+1) (l.set i ⟨t.chan,t.w,e⟩):=by
 refine ⟨(MW (·.w) (t':=⟨t.chan,t.w,e⟩) ht rfl).trans h.w,by rw [kB];exact h.len,λj u hu=>?_⟩
 rcases OE hu with ⟨rfl,rfl⟩|⟨cZ,hu⟩
 ·have:=h.all _ _ ht;exact ⟨this.1,this.2.1,λ_=>he⟩
 ·have:=h.all _ _ hu;exact ⟨this.1,this.2.1,λhj=>this.2.2 (by omega)⟩
theorem Cw.set {x:n5} {i:Nat} {l:List s4} (h:Cw x i l) {t:s4} (ht:l[i]?=some t) {e:Expr} (he:WT (x.sc true) 3 t.w e):Cw x (i+1) (l.set i ⟨t.name,t.w,t.init,e,t.sM⟩):=by
 refine ⟨(MW (·.w) (t':=⟨t.name,t.w,t.init,e,t.sM⟩) ht rfl).trans h.w,by rw [kB];exact h.len,λj u hu=>?_⟩
 rcases OE hu with ⟨rfl,rfl⟩|⟨cZ,hu⟩
 ·have:=h.all _ _ ht;exact ⟨this.1,this.2.1,λ_=>he⟩
 ·have:=h.all _ _ hu;exact ⟨this.1,this.2.1,λhj=>this.2.2 (by omega)⟩
theorem Cx.set {x:n5} {i:Nat} {l:List rC} (h:Cx x i l) {t:rC} (ht:l[i]?=some t) {e d:Expr} (he:WT (x.sc true) 3 1 e) (hd:WT (x.sc true) 3 t.w d):Cx x (i+1) (l.set i ⟨t.chan,t.w,e,d⟩):=by
 refine ⟨by rw [kB];exact h.len,λj u hu=>?_⟩
 rcases OE hu with ⟨rfl,rfl⟩|⟨cZ,hu⟩
 ·have:=h.all _ _ ht;exact ⟨this.1,this.2.1,λ_=>⟨he,hd⟩⟩
 ·have:=h.all _ _ hu;exact ⟨this.1,this.2.1,λhj=>this.2.2 (by omega)⟩
theorem Cy.set {x:n5} {i:Nat} {l:List Mem} (h:Cy x i l) {t:Mem} (ht:l[i]?=some t) {e a d:Expr} {v:Int} (he:WT (x.sc true) 3 1 e) (ha:WT (x.sc true) 3 v a) (hd:WT (x.sc true) 3 t.w d):Cy x (i+1) (l.set i ⟨t.name,t.w,t.words,e,a,d,t.sM⟩):=by
 refine ⟨(MW (λm=>(m.w,m.words)) (t':=⟨t.name,t.w,t.words,e,a,d,t.sM⟩) ht rfl).trans h.w,by rw [kB];exact h.len,λj u hu=>?_⟩
 rcases OE hu with ⟨rfl,rfl⟩|⟨cZ,hu⟩
 ·have:=h.all _ _ ht;exact ⟨this.1,this.2.1,this.2.2.1,this.2.2.2.1,λ_=>⟨he,⟨v,ha⟩,hd⟩⟩
 ·have:=h.all _ _ hu;exact ⟨this.1,this.2.1,this.2.2.1,this.2.2.2.1,λhj=>this.2.2.2.2 (by omega)⟩
theorem U4 (x:HA) (y:Ct):LF (.agg (cE 1 y.e++[.sl 1 iF (λ_=>x.b),.i .i64 (λ_=>(y.p:Int))])):=by
 show dm _
 exact I5 (oo 1 y.e).1 ⟨(λx=>(rN x).1),trivial,trivial⟩
structure ML (A:Type) where
 i:Nat
 q:Nat
 l:List A
structure Cz {A:Type} (J:Nat->List A->Prop) (n:Nat) (x:ML A):Prop where
 le:x.i<=x.l.length
 ok:J x.i x.l
 q:x.q<=n+40*x.i
theorem apC {x:n5} {rl:List s4} {ml:List Mem} {tl:List Take} {pl:List rC} (hr:Cw x rl.length rl) (hm:Cy x ml.length ml) (ht:Cv x tl.length tl) (hp:Cx x pl.length pl):qY ⟨sp,sa,rl,ml,tl,pl⟩:=by
 have mY:∀d,nS ⟨sp,sa,rl,ml,tl,pl⟩ d=x.sc d:=λd=>by unfold nS n5.sc;simp only;rw [hr.w,ht.w,hm.w]
 refine ⟨⟨hr.len,λr h=>?_⟩,⟨hm.len,λr h=>?_⟩,⟨ht.len,λr h=>?_⟩,⟨hp.len,λr h=>?_⟩⟩
 ·obtain ⟨j,hj⟩:=na h
  have:=hr.all j r hj
  rw [mY]
  exact ⟨this.1,this.2.1,this.2.2 (bX.1 hj).1⟩
 ·obtain ⟨j,hj⟩:=na h
  have:=hm.all j r hj
  rw [mY]
  exact ⟨this.1,this.2.1,this.2.2.1,this.2.2.2.1,this.2.2.2.2 (bX.1 hj).1⟩
 ·obtain ⟨j,hj⟩:=na h
  have:=ht.all j r hj
  rw [mY]
  exact ⟨this.1,this.2.1,this.2.2 (bX.1 hj).1⟩
 ·obtain ⟨j,hj⟩:=na h
  have:=hp.all j r hj
  rw [mY]
  exact ⟨this.1,this.2.1,this.2.2 (bX.1 hj).1⟩
theorem tx {i n:Nat} (h:aS (i:Int) (n:Int)=false) (hi:i<=n):i=n:=by
 have:¬i < n:=by simpa [aS] using h
 omega
@[reducible] noncomputable def ae8:fJ where
 α:=List Int
 args x:=[.agg [.sl 1 iF (λ_=>x)]]
 pre x:=qp x
 β:=ry
 post x y:=qY y
 res x y:=.agg (yQ 2 y)
noncomputable def cMd (n m:Nat):Ctx:=fl n m [(68,Tryz.f68),(69,Tryz.f69),(70,Tryz.f70)] [] [68,69,70]
theorem Kj (n m:Nat):CB PP (cMd n m):=fy n m ⟨fo Tryz.func68,fo Tryz.func69,fo Tryz.func70,trivial⟩ trivial
theorem aot:eI PP 12 ae8:=by
 refine iI (Kj 2 2) (fo Tryz.func12) (λa=>⟨⟨(λx=>(rN x).1),trivial⟩,trivial⟩) (λa y=>Gz 2 y) ?_
 intro bs hx
 have eM:qp bs:=hx
 refine ⟨?_⟩
 cbv
 refine bU.io ani ⟨bs,0⟩ [9,9,9,9] rfl (by exact bP) (by exact ao) ⟨⟨eM,(by show 0<=1000;decide)⟩⟩ λy hy=>?_
 have hy:Wd y:=hy.out
 obtain ⟨rl,ml,tl,pl⟩:=y
 obtain ⟨⟨C2,se⟩,⟨agQ,jj⟩,⟨Ic,agR⟩,jU,sW⟩:=hy
 simp only at C2 se agQ jj Ic agR jU sW
 obtain ⟨R,hR⟩:∃R,R=rl.map (·.w):=⟨_,rfl⟩
 obtain ⟨T,hT⟩:∃T,T=tl.map (·.w):=⟨_,rfl⟩
 obtain ⟨M,hM⟩:∃M,M=ml.map (λm=>(m.w,m.words)):=⟨_,rfl⟩
 have rF:R.length<=1000:=by rw [hR,oT];omega
 have wE:T.length<=1000:=by rw [hT,oT];omega
 have j7:ml.length<=1000:=by omega
 have mY:∀d,(⟨R,T,M⟩:n5).sc d=⟨R,T,ml.map λm=>(m.w,m.words),d⟩:=λd=>by rw [<-hM];rfl
 have ate:∀e n,WT ⟨R,[],ml.map λm=>(m.w,m.words),false⟩ n 1 e->WT ((⟨R,T,M⟩:n5).sc false) n 1 e:=λe n h=>by rw [mY];exact WT.more (sc:=⟨R,[],ml.map λm=>(m.w,m.words),false⟩) (sc':=⟨R,T,ml.map λm=>(m.w,m.words),false⟩) rfl rfl (λh=>by cases h) h
 have tk0:Cv ⟨R,T,M⟩ 0 tl:=⟨hT.symm,Ic,λj t h=>by have:=agR t (b_ h);exact ⟨this.1,this.2.1,λh=>by omega⟩⟩
 have rg0:Cw ⟨R,T,M⟩ 0 rl:=⟨hR.symm,C2,λj t h=>by have:=se t (b_ h);exact ⟨this.1,this.2.1,λh=>by omega⟩⟩
 have pt0:Cx ⟨R,T,M⟩ 0 pl:=⟨jU,λj t h=>by have:=sW t (b_ h);exact ⟨this.1,this.2.1,λh=>by omega⟩⟩
 have mm0:Cy ⟨R,T,M⟩ 0 ml:=⟨hM.symm,agQ,λj t h=>by have:=jj t (b_ h);exact ⟨this.1,this.2.1,this.2.2.1,this.2.2.2.1,λh=>by omega⟩⟩
 cbv
 refine Sat.ca (Kj 2 2) 9 6 [] (λx:ML Take=>[(6,.i .i64 λ_=>(x.i:Int))]) (λx=>[(4,.dyn 154 9 (yO 2) λ_=>x.l),(8,.fix 142 [.sl 1 iF (λ_=>bs),.i .i64 (λ_=>(x.q:Int))])])
  (λx=>Cz (λi l1=>Cv ⟨R,T,M⟩ i l1) 9 x) (λx=>x.l.length - x.i) ⟨0,9,tl⟩ (by exact ao) (by exact ao) ?_ ?_
 ·exact ⟨cJ _,tk0,cP _⟩
 rintro ⟨i,q,l1⟩ hJ
 have hJ:Cz (λi l1=>Cv ⟨R,T,M⟩ i l1) 9 ⟨i,q,l1⟩:=hJ
 have bp:i<=l1.length:=hJ.le
 have cq:Cv ⟨R,T,M⟩ i l1:=hJ.ok
 have xQ:q<=9+40*i:=hJ.q
 have lW:=cq.len
 have h0:=n0 i
 have h1:=cd (i:=i) (by omega)
 cbv
 refine ⟨λh=>?_,λh=>?_⟩
 ·have aR:i < l1.length:=bE
  have a7:∀z,(l1.set i z).length - (i+1) < l1.length - i:=λz=>by rw [kB];omega
  refine (bz aR).elim λtk Im=>?_
  have azO:=cq.all i tk Im
  have iD:0<=(i:Int)/\(i:Int).toNat < l1.length:=⟨h0,aR⟩
  have HC:q+10<=1000000:=by omega
  cbv
  refine bU.jD (TV 2) (λa y=>U4 a y) ⟨bs,q,R,[],ml,false⟩ [3] rfl (by have dG:=hR.symm;have pe:=hT.symm;exact cN) (by exact ao) ⟨⟨eM,HC,rF,cJ _,j7⟩⟩ λy1 fA=>?_
  have fA:Hb ⟨bs,q,R,[],ml,false⟩ y1:=fA.out
  have FI:=ate _ _ fA.e
  have bw:=cq.set Im FI.up
  have qG:=AH 1 fA.e
  have rB:y1.p<=9+40*(i+1):=by have h2:y1.p<=q+10:=fA.hi;omega
  cbv
  refine ⟨⟨iD⟩,(tk,⟨tk.chan,tk.w,y1.e⟩),⟨Im,rfl,by have dM:=qG;exact dv⟩,?_⟩
  cbv
  exact ⟨⟨i+1,y1.p,l1.set i ⟨tk.chan,tk.w,y1.e⟩⟩,by have bj:=h1;exact bH,by exact ao,⟨⟨⟨by rw [kB];exact aR,bw,rB⟩,a7 _⟩⟩⟩
 ·have bR:i=l1.length:=tx h.out bp
  have hqR:q<=100:=by omega
  rw [bR] at cq
  cbv
  refine (⟨_,rfl⟩:∃q0:Nat,q0=q).elim λq0 oH=>?_
  have Im:=cq
  refine Sat.ca (Kj 2 2) 9 8 [] (λx:ML s4=>[(8,.i .i64 λ_=>(x.i:Int))]) (λx=>[(2,.dyn 159 13 (y4 2) λ_=>x.l),(8,.fix 142 [.sl 1 iF (λ_=>bs),.i .i64 (λ_=>(x.q:Int))])])
   (λx=>Cz (λi l2=>Cw ⟨R,T,M⟩ i l2) 100 x) (λx=>x.l.length - x.i) ⟨0,q,rl⟩ (by exact ao) (by exact ao) ?_ ?_
  ·exact ⟨cJ _,rg0,by show q<=100+40*0;omega⟩
  clear hJ bp lW h0 h1
  clear cq xQ
  rintro ⟨i,q,l2⟩ hJ
  have hJ:Cz (λi l2=>Cw ⟨R,T,M⟩ i l2) 100 ⟨i,q,l2⟩:=hJ
  have bp:i<=l2.length:=hJ.le
  have cq:Cw ⟨R,T,M⟩ i l2:=hJ.ok
  have xQ:q<=100+40*i:=hJ.q
  have lW:=cq.len
  have h0:=n0 i
  have h1:=cd (i:=i) (by omega)
  cbv
  refine ⟨λh=>?_,λh=>?_⟩
  ·have aR:i < l2.length:=bE
   have a7:∀z,(l2.set i z).length - (i+1) < l2.length - i:=λz=>by rw [kB];omega
   refine (bz aR).elim λrg x9=>?_
   have agS:=cq.all i rg x9
   have iD:0<=(i:Int)/\(i:Int).toNat < l2.length:=⟨h0,aR⟩
   have HC:q+10<=1000000:=by omega
   have AS:q+13<=1000000:=by omega
   have PU:1<=rg.w/\rg.w<=3:=⟨agS.1,agS.2.1⟩
   cbv
   refine ⟨⟨iD⟩,rg,⟨x9,rfl⟩,?_⟩
   cbv
   by_cases ir:i=0
   ·have Wg:IntKind.i64.wrap (3 - min (i:Int) 1)=((2+1:Nat):Int):=by rw [ir];decide
    have wD:1<=rg.w/\rg.w+2<=8:=by omega
    refine bU.jD (apx 2) (λa y=>oV 2 a y) ⟨bs,q,R,T,ml,true,rg.w⟩ [3] rfl (by have dG:=hR.symm;have pe:=hT.symm;have bj:=Wg;exact cN) (by exact ao) ⟨⟨eM,AS,rF,wE,j7,by decide,wD⟩⟩ λy1 fA=>?_
    have fA:lP 2 ⟨bs,q,R,T,ml,true,rg.w⟩ y1:=fA.out
    have FI:WT ((⟨R,T,M⟩:n5).sc true) 3 rg.w y1.e:=by rw [mY];exact fA.e
    have bw:=cq.set x9 FI
    have rB:y1.p<=100+40*(i+1):=by have h2:y1.p<=q+KT 2:=fA.hi;have:KT 2=13:=rfl;omega
    cbv
    refine ⟨⟨iD⟩,(rg,⟨rg.name,rg.w,rg.init,y1.e,rg.sM⟩),⟨x9,rfl,by exact aJ⟩,?_⟩
    cbv
    exact ⟨⟨i+1,y1.p,l2.set i ⟨rg.name,rg.w,rg.init,y1.e,rg.sM⟩⟩,by have bj:=h1;exact bH,by exact ao,⟨⟨⟨by rw [kB];exact aR,bw,rB⟩,a7 _⟩⟩⟩
   ·have Wg:IntKind.i64.wrap (3 - min (i:Int) 1)=((1+1:Nat):Int):=by rw [Int.min_eq_right (by omega)];decide
    have wD:1<=rg.w/\rg.w+1<=8:=by omega
    have AS:q+4<=1000000:=by omega
    refine bU.jD (G3 2) (λa y=>oV 1 a y) ⟨bs,q,R,T,ml,true,rg.w⟩ [3] rfl (by have dG:=hR.symm;have pe:=hT.symm;have bj:=Wg;exact cN) (by exact ao) ⟨⟨eM,AS,rF,wE,j7,by decide,wD⟩⟩ λy1 fA=>?_
    have fA:lP 1 ⟨bs,q,R,T,ml,true,rg.w⟩ y1:=fA.out
    have FI:WT ((⟨R,T,M⟩:n5).sc true) 3 rg.w y1.e:=by rw [mY];exact fA.e.up
    have bw:=cq.set x9 FI
    have rB:y1.p<=100+40*(i+1):=by have h2:y1.p<=q+KT 1:=fA.hi;have:KT 1=4:=rfl;omega
    have qG:=AH 1 fA.e
    cbv
    refine ⟨⟨iD⟩,(rg,⟨rg.name,rg.w,rg.init,y1.e,rg.sM⟩),⟨x9,rfl,by have dM:=qG;exact dv⟩,?_⟩
    cbv
    exact ⟨⟨i+1,y1.p,l2.set i ⟨rg.name,rg.w,rg.init,y1.e,rg.sM⟩⟩,by have bj:=h1;exact bH,by exact ao,⟨⟨⟨by rw [kB];exact aR,bw,rB⟩,a7 _⟩⟩⟩
  ·have bR:i=l2.length:=tx h.out bp
   have hqR:q<=300:=by omega
   rw [bR] at cq
   cbv
   have ju:=cq
   refine (⟨_,rfl⟩:∃q0:Nat,q0=q).elim λq0 oH=>?_
   refine Sat.ca (Kj 2 2) 9 10 [] (λx:ML rC=>[(10,.i .i64 λ_=>(x.i:Int))]) (λx=>[(5,.dyn 161 16 (y5 2) λ_=>x.l),(8,.fix 142 [.sl 1 iF (λ_=>bs),.i .i64 (λ_=>(x.q:Int))])])
    (λx=>Cz (λi l3=>Cx ⟨R,T,M⟩ i l3) 300 x) (λx=>x.l.length - x.i) ⟨0,q,pl⟩ (by exact ao) (by exact ao) ?_ ?_
   ·exact ⟨cJ _,pt0,by show q<=300+40*0;omega⟩
   clear hJ bp lW h0 h1
   clear cq xQ
   rintro ⟨i,q,l3⟩ hJ
   have hJ:Cz (λi l3=>Cx ⟨R,T,M⟩ i l3) 300 ⟨i,q,l3⟩:=hJ
   have bp:i<=l3.length:=hJ.le
   have cq:Cx ⟨R,T,M⟩ i l3:=hJ.ok
   have xQ:q<=300+40*i:=hJ.q
   have lW:=cq.len
   have h0:=n0 i
   have h1:=cd (i:=i) (by omega)
   cbv
   refine ⟨λh=>?_,λh=>?_⟩
   ·have aR:i < l3.length:=bE
    have a7:∀z,(l3.set i z).length - (i+1) < l3.length - i:=λz=>by rw [kB];omega
    refine (bz aR).elim λpt C5=>?_
    have agT:=cq.all i pt C5
    have iD:0<=(i:Int)/\(i:Int).toNat < l3.length:=⟨h0,aR⟩
    have HC:q+10<=1000000:=by omega
    have PU:1<=pt.w/\pt.w+1<=8:=⟨agT.1,by have:=agT.2.1;omega⟩
    cbv
    refine bU.jD (TV 2) (λa y=>U4 a y) ⟨bs,q,R,T,ml,true⟩ [3] rfl (by have dG:=hR.symm;have pe:=hT.symm;exact cN) (by exact ao) ⟨⟨eM,HC,rF,wE,j7⟩⟩ λy1 fA=>?_
    have fA:Hb ⟨bs,q,R,T,ml,true⟩ y1:=fA.out
    have X2:y1.p+4<=1000000:=by have h2:y1.p<=q+10:=fA.hi;omega
    have HT:WT ((⟨R,T,M⟩:n5).sc true) 3 1 y1.e:=by rw [mY];exact fA.e.up
    have Wh:=AH 1 fA.e
    cbv
    refine ⟨⟨iD⟩,pt,⟨C5,rfl⟩,?_⟩
    cbv
    refine bU.jD (G3 2) (λa y=>oV 1 a y) ⟨bs,y1.p,R,T,ml,true,pt.w⟩ [3] rfl (by have dG:=hR.symm;have pe:=hT.symm;exact cN) (by exact ao) ⟨⟨eM,X2,rF,wE,j7,by decide,PU⟩⟩ λy2 ja=>?_
    have ja:lP 1 ⟨bs,y1.p,R,T,ml,true,pt.w⟩ y2:=ja.out
    have x8:WT ((⟨R,T,M⟩:n5).sc true) 3 pt.w y2.e:=by rw [mY];exact ja.e.up
    have agU:=AH 1 ja.e
    have bw:=cq.set C5 HT x8
    have rB:y2.p<=300+40*(i+1):=by have h2:y1.p<=q+10:=fA.hi;have h3:y2.p<=y1.p+KT 1:=ja.hi;have:KT 1=4:=rfl;omega
    have PV:0<=(i:Int)/\(i:Int).toNat < (l3.set i (⟨pt.chan,pt.w,y1.e,pt.data⟩:rC)).length:=by rw [kB];exact iD
    have atf:(l3.set i (⟨pt.chan,pt.w,y1.e,pt.data⟩:rC))[(i:Int).toNat]?=some ⟨pt.chan,pt.w,y1.e,pt.data⟩:=qn aR
    cbv
    refine ⟨⟨iD⟩,(pt,⟨pt.chan,pt.w,y1.e,pt.data⟩),⟨C5,rfl,by have dM:=Wh;exact dv⟩,?_⟩
    cbv
    refine ⟨⟨PV⟩,(⟨pt.chan,pt.w,y1.e,pt.data⟩,⟨pt.chan,pt.w,y1.e,y2.e⟩),⟨atf,rfl,by have dM:=agU;exact dv⟩,?_⟩
    cbv
    exact ⟨⟨i+1,y2.p,(l3.set i ⟨pt.chan,pt.w,y1.e,pt.data⟩).set i ⟨pt.chan,pt.w,y1.e,y2.e⟩⟩,by have bj:=h1;exact bH,by exact ao,⟨by rw [Nr];exact ⟨⟨by rw [kB];exact aR,bw,rB⟩,a7 _⟩⟩⟩
   ·have bR:i=l3.length:=tx h.out bp
    have hqR:q<=500:=by omega
    rw [bR] at cq
    cbv
    have vb:=cq
    refine (⟨_,rfl⟩:∃q0:Nat,q0=q).elim λq0 oH=>?_
    refine (⟨_,rfl⟩:∃wv:Int,wv=IntKind.i64.wrap (1+((bs.length:Nat):Int).tmod 2)).elim λwv p7=>?_
    have PW:1<=wv/\wv<=2:=by rw [p7,kg (by omega),cz (by omega) (by omega)];omega
    refine Sat.ca (Kj 2 2) 9 13 [] (λx:ML Mem=>[(13,.i .i64 λ_=>(x.i:Int))]) (λx=>[(3,.dyn 163 27 (rZ 2) λ_=>x.l),(8,.fix 142 [.sl 1 iF (λ_=>bs),.i .i64 (λ_=>(x.q:Int))])])
     (λx=>Cz (λi l4=>Cy ⟨R,T,M⟩ i l4) 500 x) (λx=>x.l.length - x.i) ⟨0,q,ml⟩ (by exact ao) (by exact ao) ?_ ?_
    ·exact ⟨cJ _,mm0,by show q<=500+40*0;omega⟩
    clear hJ bp lW h0 h1
    clear cq xQ
    rintro ⟨i,q,l4⟩ hJ
    have hJ:Cz (λi l4=>Cy ⟨R,T,M⟩ i l4) 500 ⟨i,q,l4⟩:=hJ
    have bp:i<=l4.length:=hJ.le
    have cq:Cy ⟨R,T,M⟩ i l4:=hJ.ok
    have xQ:q<=500+40*i:=hJ.q
    have lW:=cq.len
    have h0:=n0 i
    have h1:=cd (i:=i) (by omega)
    cbv
    refine ⟨λh=>?_,λh=>?_⟩
    ·have aR:i < l4.length:=bE
     have a7:∀z,(l4.set i z).length - (i+1) < l4.length - i:=λz=>by rw [kB];omega
     refine (bz aR).elim λmm tQ=>?_
     have agV:=cq.all i mm tQ
     have iD:0<=(i:Int)/\(i:Int).toNat < l4.length:=⟨h0,aR⟩
     have HC:q+10<=1000000:=by omega
     have PU:1<=mm.w/\mm.w+1<=8:=⟨agV.1,by have:=agV.2.1;omega⟩
     have atg:1<=wv/\wv+0<=8:=by omega
     have j7:l4.length<=1000:=by omega
     have mY:∀d,(⟨R,T,M⟩:n5).sc d=⟨R,T,l4.map λm=>(m.w,m.words),d⟩:=λd=>by rw [cq.w];rfl
     cbv
     refine bU.jD (TV 2) (λa y=>U4 a y) ⟨bs,q,R,T,l4,true⟩ [3] rfl (by have dG:=hR.symm;have pe:=hT.symm;exact cN) (by exact ao) ⟨⟨eM,HC,rF,wE,j7⟩⟩ λy1 fA=>?_
     have fA:Hb ⟨bs,q,R,T,l4,true⟩ y1:=fA.out
     have azP:y1.p<=q+10:=fA.hi
     have LY:y1.p+1<=1000000:=by omega
     have HT:WT ((⟨R,T,M⟩:n5).sc true) 3 1 y1.e:=by rw [mY];exact fA.e.up
     have Wh:=AH 1 fA.e
     cbv
     refine ⟨⟨by decide⟩,?_⟩
     cbv
     refine bU.jD (Ut 2) (λa y=>oV 0 a y) ⟨bs,y1.p,R,T,l4,true,wv⟩ [3] rfl (by have dG:=hR.symm;have pe:=hT.symm;have bj:=p7.symm;exact cN) (by exact ao) ⟨⟨eM,LY,rF,wE,j7,by decide,atg⟩⟩ λy2 ja=>?_
     have ja:lP 0 ⟨bs,y1.p,R,T,l4,true,wv⟩ y2:=ja.out
     have azQ:y2.p<=y1.p+1:=ja.hi
     have X2:y2.p+4<=1000000:=by omega
     have x8:WT ((⟨R,T,M⟩:n5).sc true) 3 wv y2.e:=by rw [mY];exact ja.e.up.up
     have agU:=AH 0 ja.e
     have azq:=AH 1 ja.e.up
     have ath:Le (cA 0 y2.e) (cA 2 y2.e):=.di ja.e.adV (λy=>(oo 1 y).1)
     cbv
     refine ⟨⟨iD⟩,mm,⟨tQ,rfl⟩,?_⟩
     cbv
     refine bU.jD (G3 2) (λa y=>oV 1 a y) ⟨bs,y2.p,R,T,l4,true,mm.w⟩ [3] rfl (by have dG:=hR.symm;have pe:=hT.symm;exact cN) (by exact ao) ⟨⟨eM,X2,rF,wE,j7,by decide,PU⟩⟩ λy3 xY=>?_
     have xY:lP 1 ⟨bs,y2.p,R,T,l4,true,mm.w⟩ y3:=xY.out
     have FI:WT ((⟨R,T,M⟩:n5).sc true) 3 mm.w y3.e:=by rw [mY];exact xY.e.up
     have ati:=AH 1 xY.e
     have bw:=cq.set tQ HT x8 FI
     have rB:y3.p<=500+40*(i+1):=by have h3:y3.p<=y2.p+KT 1:=xY.hi;have:KT 1=4:=rfl;omega
     refine (⟨_,rfl⟩:∃z1:Mem,z1=⟨mm.name,mm.w,mm.words,y1.e,mm.ad,mm.da,mm.sM⟩).elim λz1 iL=>?_
     refine (⟨_,rfl⟩:∃z2:Mem,z2=⟨mm.name,mm.w,mm.words,y1.e,y2.e,mm.da,mm.sM⟩).elim λz2 iB=>?_
     have PV:0<=(i:Int)/\(i:Int).toNat < (l4.set i z1).length:=by rw [kB];exact iD
     have atj:0<=(i:Int)/\(i:Int).toNat < ((l4.set i z1).set i z2).length:=by rw [kB];exact PV
     have atk:(l4.set i z1)[(i:Int).toNat]?=some z1:=qn aR
     have atl:((l4.set i z1).set i z2)[(i:Int).toNat]?=some z2:=qn (by rw [kB];exact aR)
     cbv
     refine ⟨⟨iD⟩,(mm,z1),⟨tQ,rfl,by subst iL;have dM:=Wh;exact dv⟩,?_⟩
     cbv
     refine ⟨⟨PV⟩,(z1,z2),⟨atk,rfl,by subst iL;subst iB;have dM:=ath;exact dv⟩,?_⟩
     cbv
     refine ⟨⟨atj⟩,(z2,⟨mm.name,mm.w,mm.words,y1.e,y2.e,y3.e,mm.sM⟩),⟨atl,rfl,by subst iB;have dM:=ati;exact dv⟩,?_⟩
     cbv
     exact ⟨⟨i+1,y3.p,((l4.set i z1).set i z2).set i ⟨mm.name,mm.w,mm.words,y1.e,y2.e,y3.e,mm.sM⟩⟩,by have bj:=h1;exact bH,by exact ao,⟨by rw [Nr,Nr];exact ⟨⟨by rw [kB];exact aR,bw,rB⟩,a7 _⟩⟩⟩
    ·have bR:i=l4.length:=tx h.out bp
     rw [bR] at cq
     have rn:qY ⟨sp,sa,l2,l4,l1,l3⟩:=apC ju cq Im vb
     cbv
     exact .mk' ⟨sp,sa,l2,l4,l1,l3⟩ ⟨by exact bP⟩ rn
structure IW (c:Int) (rw:List Int) (i k:Int) (n:Nat) (l:List bT):Prop where
 s6:sq c l
 wr:∀w∈l,l9 w 1 4/\w.i<=31
 aN:qZ rw i k l
 len:l.length<=n
theorem IW.nil (rw:List Int):IW 0 rw 0 0 0 []:=⟨sq.nil _,by simp,qZ.nil rw,cP _⟩
theorem IW.up {c d:Int} {rw:List Int} {i k:Int} {n n':Nat} {l:List bT} (h:IW c rw i k n l) (hc:c<=d) (hn:n<=n'):IW d rw i k n' l:=⟨h.s6.up hc,h.wr,h.aN,by have:=h.len;omega⟩
theorem N3 {A:Type} {l:List A} {x:A} {P:A->Prop} (h:∀w∈l,P w) (hx:P x):∀w∈l++[x],P w:=λw hw=>by
 rcases List.mem_append.1 hw with hw|hw
 ·exact h w hw
 ·simp at hw;rw [hw];exact hx
theorem IW.bf {rw:List Int} {i k n:Nat} {l:List bT} (h:IW (16*i+k) rw i k n l) (hi:i<=31) (hk:k<=7):IW (16*i+(k+1:Nat)) rw i ((k+1:Nat):Int) (n+1) (l++[⟨1,i,k⟩]):=by
 refine ⟨h.s6.add (by simp [ig]) (by simp [ig];omega),N3 h.wr ⟨⟨by simp,by simp,by simp,by simp,by simp;omega⟩,by simp;omega⟩,?_,by have:=h.len;simp;omega⟩
 have:=h.aN.bit (by omega) (by omega)
 simpa using this
theorem IW.next {rw:List Int} {i k n n':Nat} {l:List bT} (h:IW (16*i+k) rw i k n l) (hw:rw[i]?=some (k:Int)) (hk:k<=8) (hn:n<=n'):IW (16*(i+1:Nat)) rw ((i+1:Nat):Int) 0 n' l :=
 ⟨h.s6.up (by omega),h.wr,h.aN.next hw,by have:=h.len;omega⟩
theorem IW.add {c d:Int} {rw:List Int} {i k:Int} {n:Nat} {l:List bT} (h:IW c rw i k n l) {w:bT} (hw:w.kind≠1) (hr:l9 w 1 4/\w.i<=31) (hc:c<=ig w) (hd:ig w < d):IW d rw i k (n+1) (l++[w]) :=
 ⟨h.s6.add hc hd,N3 h.wr hr,h.aN.other hw,by have:=h.len;simp;omega⟩
structure Uu (rw:List Int) (y:List bT):Prop where
 ok:aeT rw y
 len:y.length<=100
@[reducible] noncomputable def atm:fJ where
 α:=ry
 args x:=[.agg (yQ 2 x)]
 pre x:=qY x
 β:=List bT
 post x y:=Uu (x.aN.map (·.w)) y
 res x y:=.sl 3 dc (λ_=>y)
theorem agW {A:Type} {f:A->Int} {l:List A} {i:Nat} {x:A} (h:l[i]?=some x):(l.map f)[i]?=some (f x):=by rw [mM,h];rfl
noncomputable def cIn (n m:Nat):Ctx:=fl n m [] []
theorem Hd (n m:Nat):CB PP (cIn n m):=fy n m trivial trivial
theorem apD:eI PP 157 atm:=by
 refine iI (Hd 2 2) (fo Tryz.func157) (λa=>⟨Gz 2 a,trivial⟩) (λa y=>(λx=>(gL x).1)) ?_
 rintro p hx
 have hp:qY p:=hx
 obtain ⟨name,clock,rl,ml,tl,pl⟩:=p
 have rF:rl.length<=3:=hp.aN.1
 have wE:tl.length<=2:=hp.aZ.1
 have sW:pl.length<=2:=hp.dX.1
 have wD:∀r∈rl,1<=r.w/\r.w<=3:=λr h=>⟨(hp.aN.2 r h).1,(hp.aN.2 r h).2.1⟩
 have FD:∀r∈tl,1<=r.w/\r.w<=2:=λr h=>⟨(hp.aZ.2 r h).1,(hp.aZ.2 r h).2.1⟩
 clear hp hx
 obtain ⟨R,hR⟩:∃R,R=rl.map (·.w):=⟨_,rfl⟩
 have A8:R.length=rl.length:=by rw [hR,oT]
 refine ⟨?_⟩
 cbv
 refine Sat.ca (Hd 2 2) 2 3 [(.t 3,1)] (λx:Nat × List bT=>[(3,.own 1),(4,.i .i64 λ_=>(x.1:Int))]) (λx=>[(1,.dyn 133 3 dc λ_=>x.2)])
  (λx=>x.1<=rl.length/\IW (16*x.1) R x.1 0 (3*x.1) x.2) (λx=>rl.length - x.1) (0,[]) (by exact ao) (by exact ao) ⟨cJ _,IW.nil R⟩ ?_
 rintro ⟨i,l⟩ ⟨hi,hl⟩
 have hi:i<=rl.length:=hi
 have hl:IW (16*i) R i 0 (3*i) l:=hl
 have h0:=n0 i
 have h1:=cd (i:=i) (by omega)
 cbv
 refine ⟨λh=>?_,λh=>?_⟩
 ·have bp:i < rl.length:=bE
  have a7:rl.length - (i+1) < rl.length - i:=by omega
  refine (bz bp).elim λr hr=>?_
  have hw:=wD r (b_ hr)
  have L5:R[i]?=some r.w:=by rw [hR];exact agW hr
  cbv
  refine Sat.ca (Hd 2 2) 2 5 [(.t 3,1)] (λx:Nat × List bT=>[(3,.own 1),(5,.i .i64 λ_=>(x.1:Int))]) (λx=>[(1,.dyn 133 3 dc λ_=>x.2)])
   (λx=>(x.1:Int)<=r.w/\IW (16*i+x.1) R i x.1 (3*i+x.1) x.2) (λx=>r.w.toNat - x.1) (0,l) (by exact ao) (by exact ao) ⟨by show (0:Int)<=r.w;omega,by simpa using hl⟩ ?_
  rintro ⟨k,l⟩ ⟨hk,hl⟩
  have hk:(k:Int)<=r.w:=hk
  have hl:IW (16*i+k) R i k (3*i+k) l:=hl
  have lW:l.length<=3*i+k:=hl.len
  have nE:k<=3:=by have:=hw.2;omega
  have L4:i<=2:=by omega
  have LM:l.length<=9:=by omega
  have gK:=n0 k
  have eT:=cd (i:=k) (by omega)
  cbv
  refine ⟨r,⟨h0,hr⟩,?_⟩
  cbv
  refine ⟨λh=>?_,λh=>?_⟩
  ·have cW:(k:Int) < r.w:=bE
   have k6:r.w.toNat - (k+1) < r.w.toNat - k:=by omega
   have bw:=hl.bf (by omega) (by omega)
   have hle:((k+1:Nat):Int)<=r.w:=by omega
   cbv
   refine ⟨[⟨1,i,k⟩],⟨by exact aJ,by show (l.length+1)*24<=_;omega,by show l.length+1<=_;omega⟩,?_⟩
   cbv
   exact ⟨(k+1,l++[⟨1,i,k⟩]),by have bj:=eT;exact bH,by exact ao,⟨⟨hle,bw⟩,k6⟩⟩
  ·have cW:¬(k:Int) < r.w:=bE
   have hk:(k:Int)<=r.w:=hk
   have CV:(k:Int)=r.w:=by omega
   have bw:=hl.next (n':=3*(i+1)) (by rw [CV];exact L5) (by omega) (by have:=nE;omega)
   cbv
   exact ⟨(i+1,l),by have bj:=h1;exact bH,by exact ao,⟨⟨bp,bw⟩,a7⟩⟩
 ·have bR:i=rl.length:=tx h.out hi
  have A8:R.length=rl.length:=A8
  have hR3:R.length<=3:=by rw [A8];exact rF
  have hl:IW (16*i) R i 0 (3*i) l:=hl
  have uV:IW 1000 R R.length 0 9 l:=by rw [bR,<-A8] at hl;exact hl.up (by have:=hR3;omega) (by have:=hR3;omega)
  cbv
  refine Sat.ca (Hd 2 2) 2 6 [(.t 3,1)] (λx:Nat × List bT=>[(3,.own 1),(6,.i .i64 λ_=>(x.1:Int))]) (λx=>[(1,.dyn 133 3 dc λ_=>x.2)])
   (λx=>x.1<=tl.length/\IW (1000+32*x.1) R R.length 0 (9+3*x.1) x.2) (λx=>tl.length - x.1) (0,l) (by exact ao) (by exact ao) ⟨cJ _,by simpa using uV⟩ ?_
  rintro ⟨i,l⟩ ⟨hi,hl⟩
  have hi:i<=tl.length:=hi
  have hl:IW (1000+32*i) R R.length 0 (9+3*i) l:=hl
  have h0:=n0 i
  have h1:=cd (i:=i) (by omega)
  cbv
  refine ⟨λh=>?_,λh=>?_⟩
  ·have bp:i < tl.length:=bE
   have a7:tl.length - (i+1) < tl.length - i:=by omega
   refine (bz bp).elim λr hr=>?_
   have hw:=FD r (b_ hr)
   cbv
   refine Sat.ca (Hd 2 2) 2 7 [(.t 3,1)] (λx:Nat × List bT=>[(3,.own 1),(7,.i .i64 λ_=>(x.1:Int))]) (λx=>[(1,.dyn 133 3 dc λ_=>x.2)])
    (λx=>(x.1:Int)<=r.w/\IW (1000+32*i+x.1) R R.length 0 (9+3*i+x.1) x.2) (λx=>r.w.toNat - x.1) (0,l) (by exact ao) (by exact ao) ⟨by show (0:Int)<=r.w;omega,by simpa using hl⟩ ?_
   rintro ⟨k,l⟩ ⟨hk,hl⟩
   have hk:(k:Int)<=r.w:=hk
   have hl:IW (1000+32*i+k) R R.length 0 (9+3*i+k) l:=hl
   have lW:l.length<=9+3*i+k:=hl.len
   have nE:k<=2:=by have:=hw.2;omega
   have L4:i<=1:=by omega
   have LM:l.length<=14:=by omega
   have gK:=n0 k
   have eT:=cd (i:=k) (by omega)
   cbv
   refine ⟨r,⟨h0,hr⟩,?_⟩
   cbv
   refine ⟨λh=>?_,λh=>?_⟩
   ·have cW:(k:Int) < r.w:=bE
    have k6:r.w.toNat - (k+1) < r.w.toNat - k:=by omega
    have bw:=hl.add (w:=⟨2,i,k⟩) (d:=1000+32*i+(k+1:Nat)) (by simp) ⟨⟨by simp,by simp,by simp,by simp,by simp;try omega⟩,by simp;try omega⟩ (by simp [ig];try omega) (by simp [ig];try omega)
    have hle:((k+1:Nat):Int)<=r.w:=by omega
    cbv
    refine ⟨[⟨2,i,k⟩],⟨by exact aJ,by show (l.length+1)*24<=_;omega,by show l.length+1<=_;omega⟩,?_⟩
    cbv
    exact ⟨(k+1,l++[⟨2,i,k⟩]),by have bj:=eT;exact bH,by exact ao,⟨⟨hle,bw⟩,k6⟩⟩
   ·have cW:¬(k:Int) < r.w:=bE
    have bw:IW (1000+32*(i+1:Nat)) R R.length 0 (9+3*(i+1)) (l++[⟨3,i,0⟩]):=(hl.add (w:=⟨3,i,0⟩) (d:=1000+32*(i+1:Nat)) (by simp) ⟨⟨by simp,by simp,by simp,by simp,by simp⟩,by simp;omega⟩ (by simp [ig];omega) (by simp [ig];omega)).up (jI _) (by omega)
    cbv
    refine ⟨[⟨3,i,0⟩],⟨by exact aJ,by show (l.length+1)*24<=_;omega,by show l.length+1<=_;omega⟩,?_⟩
    cbv
    exact ⟨(i+1,l++[⟨3,i,0⟩]),by have bj:=h1;exact bH,by exact ao,⟨⟨bp,bw⟩,a7⟩⟩
  ·have bR:i=tl.length:=tx h.out hi
   have hl:IW (1000+32*i) R R.length 0 (9+3*i) l:=hl
   have uV:IW 2000 R R.length 0 15 l:=hl.up (by have:=wE;omega) (by have:=wE;omega)
   cbv
   refine Sat.ca (Hd 2 2) 2 8 [(.t 3,1)] (λx:Nat × List bT=>[(3,.own 1),(8,.i .i64 λ_=>(x.1:Int))]) (λx=>[(1,.dyn 133 3 dc λ_=>x.2)])
    (λx=>x.1<=pl.length/\IW (2000+x.1) R R.length 0 (15+x.1) x.2) (λx=>pl.length - x.1) (0,l) (by exact ao) (by exact ao) ⟨cJ _,by simpa using uV⟩ ?_
   rintro ⟨i,l⟩ ⟨hi,hl⟩
   have hi:i<=pl.length:=hi
   have hl:IW (2000+i) R R.length 0 (15+i) l:=hl
   have lW:l.length<=15+i:=hl.len
   have LM:l.length<=17:=by omega
   have h0:=n0 i
   have h1:=cd (i:=i) (by omega)
   cbv
   refine ⟨λh=>?_,λh=>?_⟩
   ·have bp:i < pl.length:=bE
    have a7:pl.length - (i+1) < pl.length - i:=by omega
    have bw:IW (2000+(i+1:Nat)) R R.length 0 (15+(i+1)) (l++[⟨4,i,0⟩]):=(hl.add (w:=⟨4,i,0⟩) (d:=2000+(i+1:Nat)) (by simp) ⟨⟨by simp,by simp,by simp,by simp,by simp⟩,by simp;omega⟩ (by simp [ig]) (by simp [ig];omega)).up (jI _) (by omega)
    cbv
    refine ⟨[⟨4,i,0⟩],⟨by exact aJ,by show (l.length+1)*24<=_;omega,by show l.length+1<=_;omega⟩,?_⟩
    cbv
    exact ⟨(i+1,l++[⟨4,i,0⟩]),by have bj:=h1;exact bH,by exact ao,⟨⟨bp,bw⟩,a7⟩⟩
   ·have bV:Uu (rl.map (·.w)) l:=by
     rw [<-hR]
     exact ⟨⟨⟨_,hl.s6⟩,hl.wr,hl.aN⟩,by omega⟩
    cbv
    exact .mk' l ⟨by exact bP⟩ bV
end Go.Proofs.Pk
