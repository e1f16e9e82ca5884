import Derived.Test.YthnhbemmlfaihaaGreatT12
import Derived.Test.YthnhbemmlfaihaaGreatT23
import Derived.Test.YthnhbemmlfaihaaGreatT26
set_option linter.unusedVariables false
set_option linter.unusedSimpArgs false
set_option maxRecDepth 10000
set_option maxHeartbeats 64000000
namespace Go.Proofs.Pk
open Go Go.Vc
theorem WT.aeZ {sc:Sc} {w:Int} {e:Expr} (h:WT sc 1 w e):e.args=[]:=by
 obtain ⟨ws,hs⟩:=h.args
 cases he:e.args with
 | nil=>rfl
 | cons x r =>
  rw [he] at hs
  cases ws with
  | nil=>exact hs.elim
  | cons v ws=>exact nomatch hs.1
theorem Be {sc:Sc}:∀(n:Nat) {w:Int} {e:Expr},WT sc (n+1) w e->Le (cA n e) (cA (n+1) e)
 | 0,w,e,h=>.dp h.aeZ (λy=>(oG 0 y).1)
 | n+1,w,e,h=>by
  obtain ⟨ws,hs⟩:=h.args
  refine .X7 rfl (λy=>(oG (n+1) y).1) λj x y hx hy=>?_
  have hx:e.args[j]?=some x:=hx
  have hy:e.args[j]?=some y:=hy
  rw [hx] at hy
  cases hy
  obtain ⟨v,_,hv⟩:=hs.get j x hx
  exact .cons (.refl _) (.cons (.refl _) (.cons (.refl _) (.cons (.refl _) (.cons (.refl _) (.cons (.refl _) (.cons (Be n hv) .nil))))))
structure ox where
 r:List Int
 t:List Int
 m:List (Int × Int)
def ox.sc (x:ox) (d:Bool):Sc:=⟨x.r,x.t,x.m,d⟩
structure C2 (x:ox) (i:Nat) (l:List Take):Prop where
 w:l.map (·.w)=x.t
 len:l.length<=2
 all:∀(j:Nat) (t:Take),l[j]?=some t->1<=t.w/\t.w<=2/\(j < i->WT (x.sc false) 3 1 t.cond)
structure C3 (x:ox) (i:Nat) (l:List tE):Prop where
 w:l.map (·.w)=x.r
 len:l.length<=3
 all:∀(j:Nat) (t:tE),l[j]?=some t->1<=t.w/\t.w<=3/\(j < i->WT (x.sc true) 3 t.w t.next)
structure C4 (x:ox) (i:Nat) (l:List rX):Prop where
 len:l.length<=2
 all:∀(j:Nat) (t:rX),l[j]?=some t->1<=t.w/\t.w<=2/\(j < i->WT (x.sc true) 3 1 t.cond/\WT (x.sc true) 3 t.w t.data)
structure C5 (x:ox) (i:Nat) (l:List Mem):Prop where
 w:l.map (λm=>(m.w,m.words))=x.m
 len:l.length<=1
 all:∀(j:Nat) (t:Mem),l[j]?=some t->1<=t.w/\t.w<=2/\1<=t.words/\t.words<=4/\(j < i->WT (x.sc true) 3 1 t.en/\(∃v,WT (x.sc true) 3 v t.ad)/\WT (x.sc true) 3 t.w t.da)
theorem NF {A B:Type} (f:A->B):∀{l:List A} {i:Nat} {t t':A},l[i]?=some t->f t'=f t->(l.set i t').map f=l.map f
 | [],i,t,t',h,_=>by simp at h
 | x :: r,0,t,t',h,hf=>by simp at h;subst h;simp [hf]
 | x :: r,i+1,t,t',h,hf=>by
  simp only [GX,lY]
  rw [NF f (l:=r) (by simpa using h) hf]
theorem Pq {A:Type} {l:List A} {i j:Nat} {t t':A} (h:(l.set i t')[j]?=some t):(j=i/\t=t')\/(j≠i/\l[j]?=some t):=by
 rw [jb] at h
 split at h
 ·rename_i e
  split at h
  ·simp at h;exact .inl ⟨e.symm,h.symm⟩
  ·cases h
 ·rename_i e;exact .inr ⟨λh=>e h.symm,h⟩
theorem C2.set {x:ox} {i:Nat} {l:List Take} (h:C2 x i l) {t:Take} (ht:l[i]?=some t) {e:Expr} (he:WT (x.sc false) 3 1 e):C2 x (i+1) (l.set i ⟨t.chan,t.w,e⟩):=by
 refine ⟨(NF (·.w) (t':=⟨t.chan,t.w,e⟩) ht rfl).trans h.w,by rw [kO];exact h.len,λj u hu=>?_⟩
 rcases Pq hu with ⟨rfl,rfl⟩|⟨cT,hu⟩
 ·have:=h.all _ _ ht;exact ⟨this.1,this.2.1,λ_=>he⟩
 ·have:=h.all _ _ hu;exact ⟨this.1,this.2.1,λhj=>this.2.2 (by omega)⟩
theorem C3.set {x:ox} {i:Nat} {l:List tE} (h:C3 x i l) {t:tE} (ht:l[i]?=some t) {e:Expr} (he:WT (x.sc true) 3 t.w e):C3 x (i+1) (l.set i ⟨t.name,t.w,t.init,e,t.tm⟩):=by
 refine ⟨(NF (·.w) (t':=⟨t.name,t.w,t.init,e,t.tm⟩) ht rfl).trans h.w,by rw [kO];exact h.len,λj u hu=>?_⟩
 rcases Pq hu with ⟨rfl,rfl⟩|⟨cT,hu⟩
 ·have:=h.all _ _ ht;exact ⟨this.1,this.2.1,λ_=>he⟩
 ·have:=h.all _ _ hu;exact ⟨this.1,this.2.1,λhj=>this.2.2 (by omega)⟩
theorem C4.set {x:ox} {i:Nat} {l:List rX} (h:C4 x i l) {t:rX} (ht:l[i]?=some t) {e d:Expr} (he:WT (x.sc true) 3 1 e) (hd:WT (x.sc true) 3 t.w d):C4 x (i+1) (l.set i ⟨t.chan,t.w,e,d⟩):=by
 refine ⟨by rw [kO];exact h.len,λj u hu=>?_⟩
 rcases Pq hu with ⟨rfl,rfl⟩|⟨cT,hu⟩
 ·have:=h.all _ _ ht;exact ⟨this.1,this.2.1,λ_=>⟨he,hd⟩⟩
 ·have:=h.all _ _ hu;exact ⟨this.1,this.2.1,λhj=>this.2.2 (by omega)⟩
theorem C5.set {x:ox} {i:Nat} {l:List Mem} (h:C5 x i l) {t:Mem} (ht:l[i]?=some t) {e a d:Expr} {v:Int} (he:WT (x.sc true) 3 1 e) (ha:WT (x.sc true) 3 v a) (hd:WT (x.sc true) 3 t.w d):C5 x (i+1) (l.set i ⟨t.name,t.w,t.words,e,a,d,t.tm⟩):=by
 refine ⟨(NF (λm=>(m.w,m.words)) (t':=⟨t.name,t.w,t.words,e,a,d,t.tm⟩) ht rfl).trans h.w,by rw [kO];exact h.len,λj u hu=>?_⟩
 rcases Pq hu with ⟨rfl,rfl⟩|⟨cT,hu⟩
 ·have:=h.all _ _ ht;exact ⟨this.1,this.2.1,this.2.2.1,this.2.2.2.1,λ_=>⟨he,⟨v,ha⟩,hd⟩⟩
 ·have:=h.all _ _ hu;exact ⟨this.1,this.2.1,this.2.2.1,this.2.2.2.1,λhj=>this.2.2.2.2 (by omega)⟩
theorem VV (x:Il) (y:C1):LF (.agg (cE 1 y.e++[.sl 1 iN (λ_=>x.b),.i .i64 (λ_=>(y.p:Int))])):=by
 show du _
 exact JH (oG 1 y.e).1 ⟨(λx=>(sq x).1),trivial,trivial⟩
structure ML (A:Type) where
 i:Nat
 q:Nat
 l:List A
structure C6 {A:Type} (J:Nat->List A->Prop) (n:Nat) (x:ML A):Prop where
 le:x.i<=x.l.length
 ok:J x.i x.l
 q:x.q<=n+40*x.i
theorem aqR {x:ox} {rl:List tE} {ml:List Mem} {tl:List Take} {pl:List rX} (hr:C3 x rl.length rl) (hm:C5 x ml.length ml) (ht:C2 x tl.length tl) (hp:C4 x pl.length pl):rH ⟨sp,sa,rl,ml,tl,pl⟩:=by
 have nr:∀d,oh ⟨sp,sa,rl,ml,tl,pl⟩ d=x.sc d:=λd=>by unfold oh ox.sc;simp only;rw [hr.w,ht.w,hm.w]
 refine ⟨⟨hr.len,λr h=>?_⟩,⟨hm.len,λr h=>?_⟩,⟨ht.len,λr h=>?_⟩,⟨hp.len,λr h=>?_⟩⟩
 ·obtain ⟨j,hj⟩:=nC h
  have:=hr.all j r hj
  rw [nr]
  exact ⟨this.1,this.2.1,this.2.2 (bY.1 hj).1⟩
 ·obtain ⟨j,hj⟩:=nC h
  have:=hm.all j r hj
  rw [nr]
  exact ⟨this.1,this.2.1,this.2.2.1,this.2.2.2.1,this.2.2.2.2 (bY.1 hj).1⟩
 ·obtain ⟨j,hj⟩:=nC h
  have:=ht.all j r hj
  rw [nr]
  exact ⟨this.1,this.2.1,this.2.2 (bY.1 hj).1⟩
 ·obtain ⟨j,hj⟩:=nC h
  have:=hp.all j r hj
  rw [nr]
  exact ⟨this.1,this.2.1,this.2.2 (bY.1 hj).1⟩
theorem ua {i n:Nat} (h:aS (i:Int) (n:Int)=false) (hi:i<=n):i=n:=by
 have:¬i < n:=by simpa [aS] using h
 omega
@[reducible] noncomputable def agb:fO where
 α:=List Int
 args x:=[.agg [.sl 1 iN (λ_=>x)]]
 pre x:=qN x
 β:=rT
 post x y:=rH y
 res x y:=.agg (zp 2 y)
noncomputable def cMd (n m:Nat):Ctx:=fy n m [(68,Tryz.f68),(69,Tryz.f69),(70,Tryz.f70)] [] [68,69,70]
theorem K5 (n m:Nat):CB PP (cMd n m):=fF n m ⟨fo Tryz.func68,fo Tryz.func69,fo Tryz.func70,trivial⟩ trivial
theorem apI:eM PP 12 agb:=by
 refine iQ (K5 2 2) (fo Tryz.func12) (λa=>⟨⟨(λx=>(sq x).1),trivial⟩,trivial⟩) (λa y=>Hj 2 y) ?_
 intro bs hx
 have eQ:qN bs:=hx
 refine ⟨?_⟩
 cbv
 refine bV.io aow ⟨bs,0⟩ [9,9,9,9] rfl (by exact bQ) (by exact ao) ⟨⟨eQ,(by show 0<=1000;decide)⟩⟩ λy hy=>?_
 have hy:Xb y:=hy.out
 obtain ⟨rl,ml,tl,pl⟩:=y
 obtain ⟨⟨Dz,sM⟩,⟨ahV,ju⟩,⟨IZ,ahW⟩,j4,tA⟩:=hy
 simp only at Dz sM ahV ju IZ ahW j4 tA
 obtain ⟨R,hR⟩:∃R,R=rl.map (·.w):=⟨_,rfl⟩
 obtain ⟨T,hT⟩:∃T,T=tl.map (·.w):=⟨_,rfl⟩
 obtain ⟨M,hM⟩:∃M,M=ml.map (λm=>(m.w,m.words)):=⟨_,rfl⟩
 have r6:R.length<=1000:=by rw [hR,ph];omega
 have xb:T.length<=1000:=by rw [hT,ph];omega
 have km:ml.length<=1000:=by omega
 have nr:∀d,(⟨R,T,M⟩:ox).sc d=⟨R,T,ml.map λm=>(m.w,m.words),d⟩:=λd=>by rw [<-hM];rfl
 have auD:∀e n,WT ⟨R,[],ml.map λm=>(m.w,m.words),false⟩ n 1 e->WT ((⟨R,T,M⟩:ox).sc false) n 1 e:=λe n h=>by rw [nr];exact WT.more (sc:=⟨R,[],ml.map λm=>(m.w,m.words),false⟩) (sc':=⟨R,T,ml.map λm=>(m.w,m.words),false⟩) rfl rfl (λh=>by cases h) h
 have tk0:C2 ⟨R,T,M⟩ 0 tl:=⟨hT.symm,IZ,λj t h=>by have:=ahW t (cb h);exact ⟨this.1,this.2.1,λh=>by omega⟩⟩
 have rg0:C3 ⟨R,T,M⟩ 0 rl:=⟨hR.symm,Dz,λj t h=>by have:=sM t (cb h);exact ⟨this.1,this.2.1,λh=>by omega⟩⟩
 have pt0:C4 ⟨R,T,M⟩ 0 pl:=⟨j4,λj t h=>by have:=tA t (cb h);exact ⟨this.1,this.2.1,λh=>by omega⟩⟩
 have mm0:C5 ⟨R,T,M⟩ 0 ml:=⟨hM.symm,ahV,λj t h=>by have:=ju t (cb h);exact ⟨this.1,this.2.1,this.2.2.1,this.2.2.2.1,λh=>by omega⟩⟩
 cbv
 refine Sat.cd (K5 2 2) 9 6 [] (λx:ML Take=>[(6,.i .i64 λ_=>(x.i:Int))]) (λx=>[(4,.dyn 154 9 (zn 2) λ_=>x.l),(8,.fix 142 [.sl 1 iN (λ_=>bs),.i .i64 (λ_=>(x.q:Int))])])
  (λx=>C6 (λi l1=>C2 ⟨R,T,M⟩ i l1) 9 x) (λx=>x.l.length - x.i) ⟨0,9,tl⟩ (by exact ao) (by exact ao) ?_ ?_
 ·exact ⟨cL _,tk0,cR _⟩
 rintro ⟨i,q,l1⟩ hJ
 have hJ:C6 (λi l1=>C2 ⟨R,T,M⟩ i l1) 9 ⟨i,q,l1⟩:=hJ
 have bq:i<=l1.length:=hJ.le
 have cv:C2 ⟨R,T,M⟩ i l1:=hJ.ok
 have ym:q<=9+40*i:=hJ.q
 have mq:=cv.len
 have h0:=n0 i
 have h1:=cj (i:=i) (by omega)
 cbv
 refine ⟨λh=>?_,λh=>?_⟩
 ·have aR:i < l1.length:=bG
  have a7:∀z,(l1.set i z).length - (i+1) < l1.length - i:=λz=>by rw [kO];omega
  refine (bB aR).elim λtk I7=>?_
  have aBb:=cv.all i tk I7
  have iL:0<=(i:Int)/\(i:Int).toNat < l1.length:=⟨h0,aR⟩
  have Io:q+10<=1000000:=by omega
  cbv
  refine bV.jM (UM 2) (λa y=>VV a y) ⟨bs,q,R,[],ml,false⟩ [3] rfl (by have dJ:=hR.symm;have pH:=hT.symm;exact cQ) (by exact ao) ⟨⟨eQ,Io,r6,cL _,km⟩⟩ λy1 fG=>?_
  have fG:HQ ⟨bs,q,R,[],ml,false⟩ y1:=fG.out
  have Gj:=auD _ _ fG.e
  have bA:=cv.set I7 Gj.up
  have q9:=Be 1 fG.e
  have rW:y1.p<=9+40*(i+1):=by have h2:y1.p<=q+10:=fG.hi;omega
  cbv
  refine ⟨⟨iL⟩,(tk,⟨tk.chan,tk.w,y1.e⟩),⟨I7,rfl,by have dP:=q9;exact dy⟩,?_⟩
  cbv
  exact ⟨⟨i+1,y1.p,l1.set i ⟨tk.chan,tk.w,y1.e⟩⟩,by have bm:=h1;exact bI,by exact ao,⟨⟨⟨by rw [kO];exact aR,bA,rW⟩,a7 _⟩⟩⟩
 ·have bS:i=l1.length:=ua h.out bq
  have hqR:q<=100:=by omega
  rw [bS] at cv
  cbv
  refine (⟨_,rfl⟩:∃q0:Nat,q0=q).elim λq0 oW=>?_
  have I7:=cv
  refine Sat.cd (K5 2 2) 9 8 [] (λx:ML tE=>[(8,.i .i64 λ_=>(x.i:Int))]) (λx=>[(2,.dyn 159 13 (zD 2) λ_=>x.l),(8,.fix 142 [.sl 1 iN (λ_=>bs),.i .i64 (λ_=>(x.q:Int))])])
   (λx=>C6 (λi l2=>C3 ⟨R,T,M⟩ i l2) 100 x) (λx=>x.l.length - x.i) ⟨0,q,rl⟩ (by exact ao) (by exact ao) ?_ ?_
  ·exact ⟨cL _,rg0,by show q<=100+40*0;omega⟩
  clear hJ bq mq h0 h1
  clear cv ym
  rintro ⟨i,q,l2⟩ hJ
  have hJ:C6 (λi l2=>C3 ⟨R,T,M⟩ i l2) 100 ⟨i,q,l2⟩:=hJ
  have bq:i<=l2.length:=hJ.le
  have cv:C3 ⟨R,T,M⟩ i l2:=hJ.ok
  have ym:q<=100+40*i:=hJ.q
  have mq:=cv.len
  have h0:=n0 i
  have h1:=cj (i:=i) (by omega)
  cbv
  refine ⟨λh=>?_,λh=>?_⟩
  ·have aR:i < l2.length:=bG
   have a7:∀z,(l2.set i z).length - (i+1) < l2.length - i:=λz=>by rw [kO];omega
   refine (bB aR).elim λrg yD=>?_
   have ahX:=cv.all i rg yD
   have iL:0<=(i:Int)/\(i:Int).toNat < l2.length:=⟨h0,aR⟩
   have Io:q+10<=1000000:=by omega
   have Bo:q+13<=1000000:=by omega
   have QH:1<=rg.w/\rg.w<=3:=⟨ahX.1,ahX.2.1⟩
   cbv
   refine ⟨⟨iL⟩,rg,⟨yD,rfl⟩,?_⟩
   cbv
   by_cases iD:i=0
   ·have Xe:IntKind.i64.wrap (3 - min (i:Int) 1)=((2+1:Nat):Int):=by rw [iD];decide
    have xa:1<=rg.w/\rg.w+2<=8:=by omega
    refine bV.jM (aqM 2) (λa y=>pq 2 a y) ⟨bs,q,R,T,ml,true,rg.w⟩ [3] rfl (by have dJ:=hR.symm;have pH:=hT.symm;have bm:=Xe;exact cQ) (by exact ao) ⟨⟨eQ,Bo,r6,xb,km,by decide,xa⟩⟩ λy1 fG=>?_
    have fG:l6 2 ⟨bs,q,R,T,ml,true,rg.w⟩ y1:=fG.out
    have Gj:WT ((⟨R,T,M⟩:ox).sc true) 3 rg.w y1.e:=by rw [nr];exact fG.e
    have bA:=cv.set yD Gj
    have rW:y1.p<=100+40*(i+1):=by have h2:y1.p<=q+KT 2:=fG.hi;have:KT 2=13:=rfl;omega
    cbv
    refine ⟨⟨iL⟩,(rg,⟨rg.name,rg.w,rg.init,y1.e,rg.tm⟩),⟨yD,rfl,by exact aL⟩,?_⟩
    cbv
    exact ⟨⟨i+1,y1.p,l2.set i ⟨rg.name,rg.w,rg.init,y1.e,rg.tm⟩⟩,by have bm:=h1;exact bI,by exact ao,⟨⟨⟨by rw [kO];exact aR,bA,rW⟩,a7 _⟩⟩⟩
   ·have Xe:IntKind.i64.wrap (3 - min (i:Int) 1)=((1+1:Nat):Int):=by rw [Int.min_eq_right (by omega)];decide
    have xa:1<=rg.w/\rg.w+1<=8:=by omega
    have Bo:q+4<=1000000:=by omega
    refine bV.jM (HG 2) (λa y=>pq 1 a y) ⟨bs,q,R,T,ml,true,rg.w⟩ [3] rfl (by have dJ:=hR.symm;have pH:=hT.symm;have bm:=Xe;exact cQ) (by exact ao) ⟨⟨eQ,Bo,r6,xb,km,by decide,xa⟩⟩ λy1 fG=>?_
    have fG:l6 1 ⟨bs,q,R,T,ml,true,rg.w⟩ y1:=fG.out
    have Gj:WT ((⟨R,T,M⟩:ox).sc true) 3 rg.w y1.e:=by rw [nr];exact fG.e.up
    have bA:=cv.set yD Gj
    have rW:y1.p<=100+40*(i+1):=by have h2:y1.p<=q+KT 1:=fG.hi;have:KT 1=4:=rfl;omega
    have q9:=Be 1 fG.e
    cbv
    refine ⟨⟨iL⟩,(rg,⟨rg.name,rg.w,rg.init,y1.e,rg.tm⟩),⟨yD,rfl,by have dP:=q9;exact dy⟩,?_⟩
    cbv
    exact ⟨⟨i+1,y1.p,l2.set i ⟨rg.name,rg.w,rg.init,y1.e,rg.tm⟩⟩,by have bm:=h1;exact bI,by exact ao,⟨⟨⟨by rw [kO];exact aR,bA,rW⟩,a7 _⟩⟩⟩
  ·have bS:i=l2.length:=ua h.out bq
   have hqR:q<=300:=by omega
   rw [bS] at cv
   cbv
   have jD:=cv
   refine (⟨_,rfl⟩:∃q0:Nat,q0=q).elim λq0 oW=>?_
   refine Sat.cd (K5 2 2) 9 10 [] (λx:ML rX=>[(10,.i .i64 λ_=>(x.i:Int))]) (λx=>[(5,.dyn 161 16 (zF 2) λ_=>x.l),(8,.fix 142 [.sl 1 iN (λ_=>bs),.i .i64 (λ_=>(x.q:Int))])])
    (λx=>C6 (λi l3=>C4 ⟨R,T,M⟩ i l3) 300 x) (λx=>x.l.length - x.i) ⟨0,q,pl⟩ (by exact ao) (by exact ao) ?_ ?_
   ·exact ⟨cL _,pt0,by show q<=300+40*0;omega⟩
   clear hJ bq mq h0 h1
   clear cv ym
   rintro ⟨i,q,l3⟩ hJ
   have hJ:C6 (λi l3=>C4 ⟨R,T,M⟩ i l3) 300 ⟨i,q,l3⟩:=hJ
   have bq:i<=l3.length:=hJ.le
   have cv:C4 ⟨R,T,M⟩ i l3:=hJ.ok
   have ym:q<=300+40*i:=hJ.q
   have mq:=cv.len
   have h0:=n0 i
   have h1:=cj (i:=i) (by omega)
   cbv
   refine ⟨λh=>?_,λh=>?_⟩
   ·have aR:i < l3.length:=bG
    have a7:∀z,(l3.set i z).length - (i+1) < l3.length - i:=λz=>by rw [kO];omega
    refine (bB aR).elim λpt DC=>?_
    have ahY:=cv.all i pt DC
    have iL:0<=(i:Int)/\(i:Int).toNat < l3.length:=⟨h0,aR⟩
    have Io:q+10<=1000000:=by omega
    have QH:1<=pt.w/\pt.w+1<=8:=⟨ahY.1,by have:=ahY.2.1;omega⟩
    cbv
    refine bV.jM (UM 2) (λa y=>VV a y) ⟨bs,q,R,T,ml,true⟩ [3] rfl (by have dJ:=hR.symm;have pH:=hT.symm;exact cQ) (by exact ao) ⟨⟨eQ,Io,r6,xb,km⟩⟩ λy1 fG=>?_
    have fG:HQ ⟨bs,q,R,T,ml,true⟩ y1:=fG.out
    have YX:y1.p+4<=1000000:=by have h2:y1.p<=q+10:=fG.hi;omega
    have IF:WT ((⟨R,T,M⟩:ox).sc true) 3 1 y1.e:=by rw [nr];exact fG.e.up
    have Xf:=Be 1 fG.e
    cbv
    refine ⟨⟨iL⟩,pt,⟨DC,rfl⟩,?_⟩
    cbv
    refine bV.jM (HG 2) (λa y=>pq 1 a y) ⟨bs,y1.p,R,T,ml,true,pt.w⟩ [3] rfl (by have dJ:=hR.symm;have pH:=hT.symm;exact cQ) (by exact ao) ⟨⟨eQ,YX,r6,xb,km,by decide,QH⟩⟩ λy2 jj=>?_
    have jj:l6 1 ⟨bs,y1.p,R,T,ml,true,pt.w⟩ y2:=jj.out
    have yC:WT ((⟨R,T,M⟩:ox).sc true) 3 pt.w y2.e:=by rw [nr];exact jj.e.up
    have ahZ:=Be 1 jj.e
    have bA:=cv.set DC IF yC
    have rW:y2.p<=300+40*(i+1):=by have h2:y1.p<=q+10:=fG.hi;have h3:y2.p<=y1.p+KT 1:=jj.hi;have:KT 1=4:=rfl;omega
    have QI:0<=(i:Int)/\(i:Int).toNat < (l3.set i (⟨pt.chan,pt.w,y1.e,pt.data⟩:rX)).length:=by rw [kO];exact iL
    have auE:(l3.set i (⟨pt.chan,pt.w,y1.e,pt.data⟩:rX))[(i:Int).toNat]?=some ⟨pt.chan,pt.w,y1.e,pt.data⟩:=qM aR
    cbv
    refine ⟨⟨iL⟩,(pt,⟨pt.chan,pt.w,y1.e,pt.data⟩),⟨DC,rfl,by have dP:=Xf;exact dy⟩,?_⟩
    cbv
    refine ⟨⟨QI⟩,(⟨pt.chan,pt.w,y1.e,pt.data⟩,⟨pt.chan,pt.w,y1.e,y2.e⟩),⟨auE,rfl,by have dP:=ahZ;exact dy⟩,?_⟩
    cbv
    exact ⟨⟨i+1,y2.p,(l3.set i ⟨pt.chan,pt.w,y1.e,pt.data⟩).set i ⟨pt.chan,pt.w,y1.e,y2.e⟩⟩,by have bm:=h1;exact bI,by exact ao,⟨by rw [Od];exact ⟨⟨by rw [kO];exact aR,bA,rW⟩,a7 _⟩⟩⟩
   ·have bS:i=l3.length:=ua h.out bq
    have hqR:q<=500:=by omega
    rw [bS] at cv
    cbv
    have vH:=cv
    refine (⟨_,rfl⟩:∃q0:Nat,q0=q).elim λq0 oW=>?_
    refine (⟨_,rfl⟩:∃wv:Int,wv=IntKind.i64.wrap (1+((bs.length:Nat):Int).tmod 2)).elim λwv qx=>?_
    have QJ:1<=wv/\wv<=2:=by rw [qx,kA (by omega),cD (by omega) (by omega)];omega
    refine Sat.cd (K5 2 2) 9 13 [] (λx:ML Mem=>[(13,.i .i64 λ_=>(x.i:Int))]) (λx=>[(3,.dyn 163 27 (sF 2) λ_=>x.l),(8,.fix 142 [.sl 1 iN (λ_=>bs),.i .i64 (λ_=>(x.q:Int))])])
     (λx=>C6 (λi l4=>C5 ⟨R,T,M⟩ i l4) 500 x) (λx=>x.l.length - x.i) ⟨0,q,ml⟩ (by exact ao) (by exact ao) ?_ ?_
    ·exact ⟨cL _,mm0,by show q<=500+40*0;omega⟩
    clear hJ bq mq h0 h1
    clear cv ym
    rintro ⟨i,q,l4⟩ hJ
    have hJ:C6 (λi l4=>C5 ⟨R,T,M⟩ i l4) 500 ⟨i,q,l4⟩:=hJ
    have bq:i<=l4.length:=hJ.le
    have cv:C5 ⟨R,T,M⟩ i l4:=hJ.ok
    have ym:q<=500+40*i:=hJ.q
    have mq:=cv.len
    have h0:=n0 i
    have h1:=cj (i:=i) (by omega)
    cbv
    refine ⟨λh=>?_,λh=>?_⟩
    ·have aR:i < l4.length:=bG
     have a7:∀z,(l4.set i z).length - (i+1) < l4.length - i:=λz=>by rw [kO];omega
     refine (bB aR).elim λmm uz=>?_
     have ah0:=cv.all i mm uz
     have iL:0<=(i:Int)/\(i:Int).toNat < l4.length:=⟨h0,aR⟩
     have Io:q+10<=1000000:=by omega
     have QH:1<=mm.w/\mm.w+1<=8:=⟨ah0.1,by have:=ah0.2.1;omega⟩
     have auF:1<=wv/\wv+0<=8:=by omega
     have km:l4.length<=1000:=by omega
     have nr:∀d,(⟨R,T,M⟩:ox).sc d=⟨R,T,l4.map λm=>(m.w,m.words),d⟩:=λd=>by rw [cv.w];rfl
     cbv
     refine bV.jM (UM 2) (λa y=>VV a y) ⟨bs,q,R,T,l4,true⟩ [3] rfl (by have dJ:=hR.symm;have pH:=hT.symm;exact cQ) (by exact ao) ⟨⟨eQ,Io,r6,xb,km⟩⟩ λy1 fG=>?_
     have fG:HQ ⟨bs,q,R,T,l4,true⟩ y1:=fG.out
     have aBc:y1.p<=q+10:=fG.hi
     have ME:y1.p+1<=1000000:=by omega
     have IF:WT ((⟨R,T,M⟩:ox).sc true) 3 1 y1.e:=by rw [nr];exact fG.e.up
     have Xf:=Be 1 fG.e
     cbv
     refine ⟨⟨by decide⟩,?_⟩
     cbv
     refine bV.jM (Vn 2) (λa y=>pq 0 a y) ⟨bs,y1.p,R,T,l4,true,wv⟩ [3] rfl (by have dJ:=hR.symm;have pH:=hT.symm;have bm:=qx.symm;exact cQ) (by exact ao) ⟨⟨eQ,ME,r6,xb,km,by decide,auF⟩⟩ λy2 jj=>?_
     have jj:l6 0 ⟨bs,y1.p,R,T,l4,true,wv⟩ y2:=jj.out
     have aBd:y2.p<=y1.p+1:=jj.hi
     have YX:y2.p+4<=1000000:=by omega
     have yC:WT ((⟨R,T,M⟩:ox).sc true) 3 wv y2.e:=by rw [nr];exact jj.e.up.up
     have ahZ:=Be 0 jj.e
     have aAN:=Be 1 jj.e.up
     have auG:Le (cA 0 y2.e) (cA 2 y2.e):=.dp jj.e.aeZ (λy=>(oG 1 y).1)
     cbv
     refine ⟨⟨iL⟩,mm,⟨uz,rfl⟩,?_⟩
     cbv
     refine bV.jM (HG 2) (λa y=>pq 1 a y) ⟨bs,y2.p,R,T,l4,true,mm.w⟩ [3] rfl (by have dJ:=hR.symm;have pH:=hT.symm;exact cQ) (by exact ao) ⟨⟨eQ,YX,r6,xb,km,by decide,QH⟩⟩ λy3 yv=>?_
     have yv:l6 1 ⟨bs,y2.p,R,T,l4,true,mm.w⟩ y3:=yv.out
     have Gj:WT ((⟨R,T,M⟩:ox).sc true) 3 mm.w y3.e:=by rw [nr];exact yv.e.up
     have auH:=Be 1 yv.e
     have bA:=cv.set uz IF yC Gj
     have rW:y3.p<=500+40*(i+1):=by have h3:y3.p<=y2.p+KT 1:=yv.hi;have:KT 1=4:=rfl;omega
     refine (⟨_,rfl⟩:∃z1:Mem,z1=⟨mm.name,mm.w,mm.words,y1.e,mm.ad,mm.da,mm.tm⟩).elim λz1 iT=>?_
     refine (⟨_,rfl⟩:∃z2:Mem,z2=⟨mm.name,mm.w,mm.words,y1.e,y2.e,mm.da,mm.tm⟩).elim λz2 iJ=>?_
     have QI:0<=(i:Int)/\(i:Int).toNat < (l4.set i z1).length:=by rw [kO];exact iL
     have auI:0<=(i:Int)/\(i:Int).toNat < ((l4.set i z1).set i z2).length:=by rw [kO];exact QI
     have auJ:(l4.set i z1)[(i:Int).toNat]?=some z1:=qM aR
     have auK:((l4.set i z1).set i z2)[(i:Int).toNat]?=some z2:=qM (by rw [kO];exact aR)
     cbv
     refine ⟨⟨iL⟩,(mm,z1),⟨uz,rfl,by subst iT;have dP:=Xf;exact dy⟩,?_⟩
     cbv
     refine ⟨⟨QI⟩,(z1,z2),⟨auJ,rfl,by subst iT;subst iJ;have dP:=auG;exact dy⟩,?_⟩
     cbv
     refine ⟨⟨auI⟩,(z2,⟨mm.name,mm.w,mm.words,y1.e,y2.e,y3.e,mm.tm⟩),⟨auK,rfl,by subst iJ;have dP:=auH;exact dy⟩,?_⟩
     cbv
     exact ⟨⟨i+1,y3.p,((l4.set i z1).set i z2).set i ⟨mm.name,mm.w,mm.words,y1.e,y2.e,y3.e,mm.tm⟩⟩,by have bm:=h1;exact bI,by exact ao,⟨by rw [Od,Od];exact ⟨⟨by rw [kO];exact aR,bA,rW⟩,a7 _⟩⟩⟩
    ·have bS:i=l4.length:=ua h.out bq
     rw [bS] at cv
     have rO:rH ⟨sp,sa,l2,l4,l1,l3⟩:=aqR jD cv I7 vH
     cbv
     exact .mk' ⟨sp,sa,l2,l4,l1,l3⟩ ⟨by exact bQ⟩ rO
end Go.Proofs.Pk
