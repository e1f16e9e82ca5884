import Derived.Test.YthnhbemmlfaihaaGreatU7
import Derived.Test.YthnhbemmlfaihaaGreatU17
import Derived.Test.YthnhbemmlfaihaaGreatU20
set_option linter.unusedVariables false
set_option linter.unusedSimpArgs false
set_option maxRecDepth 10000
set_option maxHeartbeats 64000000
namespace Go.Proofs.Pk
open Go Go.Vc
theorem WT.aeP {sc:Sc} {w:Int} {e:Expr} (h:WT sc 1 w e):e.args=[]:=by
 obtain ⟨ws,hs⟩:=h.args
 cases he:e.args with
 | nil=>rfl
 | cons x r =>
  rw [he] at hs
  cases ws with
  | nil=>exact hs.elim
  | cons v ws=>exact nomatch hs.1
theorem AW {sc:Sc}:∀(n:Nat) {w:Int} {e:Expr},WT sc (n+1) w e->Le (cA n e) (cA (n+1) e)
 | 0,w,e,h=>.dg h.aeP (λy=>(oF 0 y).1)
 | n+1,w,e,h=>by
  obtain ⟨ws,hs⟩:=h.args
  refine .XU rfl (λy=>(oF (n+1) y).1) λj x y hx hy=>?_
  have hx:e.args[j]?=some x:=hx
  have hy:e.args[j]?=some y:=hy
  rw [hx] at hy
  cases hy
  obtain ⟨v,_,hv⟩:=hs.get j x hx
  exact .cons (.refl _) (.cons (.refl _) (.cons (.refl _) (.cons (.refl _) (.cons (.refl _) (.cons (.refl _) (.cons (AW n hv) .nil))))))
structure oq where
 r:List Int
 t:List Int
 m:List (Int × Int)
def oq.sc (x:oq) (d:Bool):Sc:=⟨x.r,x.t,x.m,d⟩
structure CN (x:oq) (i:Nat) (l:List Take):Prop where
 w:l.map (·.w)=x.t
 len:l.length<=2
 all:∀(j:Nat) (t:Take),l[j]?=some t->1<=t.w/\t.w<=2/\(j < i->WT (x.sc false) 3 1 t.cond)
structure CP (x:oq) (i:Nat) (l:List tv):Prop where
 w:l.map (·.w)=x.r
 len:l.length<=3
 all:∀(j:Nat) (t:tv),l[j]?=some t->1<=t.w/\t.w<=3/\(j < i->WT (x.sc true) 3 t.w t.next)
structure CQ (x:oq) (i:Nat) (l:List rV):Prop where
 len:l.length<=2
 all:∀(j:Nat) (t:rV),l[j]?=some t->1<=t.w/\t.w<=2/\(j < i->WT (x.sc true) 3 1 t.cond/\WT (x.sc true) 3 t.w t.data)
structure CR (x:oq) (i:Nat) (l:List Mem):Prop where
 w:l.map (λm=>(m.w,m.words))=x.m
 len:l.length<=1
 all:∀(j:Nat) (t:Mem),l[j]?=some t->1<=t.w/\t.w<=2/\1<=t.words/\t.words<=4/\(j < i->WT (x.sc true) 3 1 t.en/\(∃v,WT (x.sc true) 3 v t.ad)/\WT (x.sc true) 3 t.w t.da)
theorem NF {A B:Type} (f:A->B):∀{l:List A} {i:Nat} {t t':A},l[i]?=some t->f t'=f t->(l.set i t').map f=l.map f
 | [],i,t,t',h,_=>by simp at h
 | x :: r,0,t,t',h,hf=>by simp at h;subst h;simp [hf]
 | x :: r,i+1,t,t',h,hf=>by
  simp only [GG,mw]
  rw [NF f (l:=r) (by simpa using h) hf]
theorem Pr {A:Type} {l:List A} {i j:Nat} {t t':A} (h:(l.set i t')[j]?=some t):(j=i/\t=t')\/(j≠i/\l[j]?=some t):=by
 rw [ja] at h
 split at h
 ·rename_i e
  split at h
  ·simp at h;exact .inl ⟨e.symm,h.symm⟩
  ·cases h
 ·rename_i e;exact .inr ⟨λh=>e h.symm,h⟩
theorem CN.set {x:oq} {i:Nat} {l:List Take} (h:CN x i l) {t:Take} (ht:l[i]?=some t) {e:Expr} (he:WT (x.sc false) 3 1 e):CN x (i+1) (l.set i ⟨t.chan,t.w,e⟩):=by
 refine ⟨(NF (·.w) (t':=⟨t.chan,t.w,e⟩) ht rfl).trans h.w,by rw [km];exact h.len,λj u hu=>?_⟩
 rcases Pr hu with ⟨rfl,rfl⟩|⟨cO,hu⟩
 ·have:=h.all _ _ ht;exact ⟨this.1,this.2.1,λ_=>he⟩
 ·have:=h.all _ _ hu;exact ⟨this.1,this.2.1,λhj=>this.2.2 (by omega)⟩
theorem CP.set {x:oq} {i:Nat} {l:List tv} (h:CP x i l) {t:tv} (ht:l[i]?=some t) {e:Expr} (he:WT (x.sc true) 3 t.w e):CP x (i+1) (l.set i ⟨t.name,t.w,t.init,e,t.s9⟩):=by
 refine ⟨(NF (·.w) (t':=⟨t.name,t.w,t.init,e,t.s9⟩) ht rfl).trans h.w,by rw [km];exact h.len,λj u hu=>?_⟩
 rcases Pr hu with ⟨rfl,rfl⟩|⟨cO,hu⟩
 ·have:=h.all _ _ ht;exact ⟨this.1,this.2.1,λ_=>he⟩
 ·have:=h.all _ _ hu;exact ⟨this.1,this.2.1,λhj=>this.2.2 (by omega)⟩
theorem CQ.set {x:oq} {i:Nat} {l:List rV} (h:CQ x i l) {t:rV} (ht:l[i]?=some t) {e d:Expr} (he:WT (x.sc true) 3 1 e) (hd:WT (x.sc true) 3 t.w d):CQ x (i+1) (l.set i ⟨t.chan,t.w,e,d⟩):=by
 refine ⟨by rw [km];exact h.len,λj u hu=>?_⟩
 rcases Pr hu with ⟨rfl,rfl⟩|⟨cO,hu⟩
 ·have:=h.all _ _ ht;exact ⟨this.1,this.2.1,λ_=>⟨he,hd⟩⟩
 ·have:=h.all _ _ hu;exact ⟨this.1,this.2.1,λhj=>this.2.2 (by omega)⟩
theorem CR.set {x:oq} {i:Nat} {l:List Mem} (h:CR x i l) {t:Mem} (ht:l[i]?=some t) {e a d:Expr} {v:Int} (he:WT (x.sc true) 3 1 e) (ha:WT (x.sc true) 3 v a) (hd:WT (x.sc true) 3 t.w d):CR x (i+1) (l.set i ⟨t.name,t.w,t.words,e,a,d,t.s9⟩):=by
 refine ⟨(NF (λm=>(m.w,m.words)) (t':=⟨t.name,t.w,t.words,e,a,d,t.s9⟩) ht rfl).trans h.w,by rw [km];exact h.len,λj u hu=>?_⟩
 rcases Pr hu with ⟨rfl,rfl⟩|⟨cO,hu⟩
 ·have:=h.all _ _ ht;exact ⟨this.1,this.2.1,this.2.2.1,this.2.2.2.1,λ_=>⟨he,⟨v,ha⟩,hd⟩⟩
 ·have:=h.all _ _ hu;exact ⟨this.1,this.2.1,this.2.2.1,this.2.2.2.1,λhj=>this.2.2.2.2 (by omega)⟩
theorem VK (x:HW) (y:CM):LF (.agg (cE 1 y.e++[.sl 1 jq (λ_=>x.b),.i .i64 (λ_=>(y.p:Int))])):=by
 show du _
 exact Js (oF 1 y.e).1 ⟨(λx=>(tU x).1),trivial,trivial⟩
structure ML (A:Type) where
 i:Nat
 q:Nat
 l:List A
structure CS {A:Type} (J:Nat->List A->Prop) (n:Nat) (x:ML A):Prop where
 le:x.i<=x.l.length
 ok:J x.i x.l
 q:x.q<=n+40*x.i
theorem aqx {x:oq} {rl:List tv} {ml:List Mem} {tl:List Take} {pl:List rV} (hr:CP x rl.length rl) (hm:CR x ml.length ml) (ht:CN x tl.length tl) (hp:CQ x pl.length pl):rG ⟨sp,sa,rl,ml,tl,pl⟩:=by
 have lA:∀d,n8 ⟨sp,sa,rl,ml,tl,pl⟩ d=x.sc d:=λd=>by unfold n8 oq.sc;simp only;rw [hr.w,ht.w,hm.w]
 refine ⟨⟨hr.len,λr h=>?_⟩,⟨hm.len,λr h=>?_⟩,⟨ht.len,λr h=>?_⟩,⟨hp.len,λr h=>?_⟩⟩
 ·obtain ⟨j,hj⟩:=nX h
  have:=hr.all j r hj
  rw [lA]
  exact ⟨this.1,this.2.1,this.2.2 (bW.1 hj).1⟩
 ·obtain ⟨j,hj⟩:=nX h
  have:=hm.all j r hj
  rw [lA]
  exact ⟨this.1,this.2.1,this.2.2.1,this.2.2.2.1,this.2.2.2.2 (bW.1 hj).1⟩
 ·obtain ⟨j,hj⟩:=nX h
  have:=ht.all j r hj
  rw [lA]
  exact ⟨this.1,this.2.1,this.2.2 (bW.1 hj).1⟩
 ·obtain ⟨j,hj⟩:=nX h
  have:=hp.all j r hj
  rw [lA]
  exact ⟨this.1,this.2.1,this.2.2 (bW.1 hj).1⟩
theorem tR {i n:Nat} (h:aU (i:Int) (n:Int)=false) (hi:i<=n):i=n:=by
 have:¬i < n:=by simpa [aU] using h
 omega
@[reducible] noncomputable def af2:fK where
 α:=List Int
 args x:=[.agg [.sl 1 jq (λ_=>x)]]
 pre x:=se x
 β:=rR
 post x y:=rG y
 res x y:=.agg (za 2 y)
noncomputable def cMd (n m:Nat):Ctx:=fB n m [(68,Tryz.f68),(69,Tryz.f69),(70,Tryz.f70)] [] [68,69,70]
theorem KM (n m:Nat):CB PP (cMd n m):=fG n m ⟨fo Tryz.func68,fo Tryz.func69,fo Tryz.func70,trivial⟩ trivial
theorem apn:eG PP 12 af2:=by
 refine iL (KM 2 2) (fo Tryz.func12) (λa=>⟨⟨(λx=>(tU x).1),trivial⟩,trivial⟩) (λa y=>G4 2 y) ?_
 intro bs hx
 have eS:se bs:=hx
 refine ⟨?_⟩
 cbv
 refine bV.io aof ⟨bs,0⟩ [9,9,9,9] rfl (by exact bQ) (by exact ao) ⟨⟨eS,(by show 0<=1000;decide)⟩⟩ λy hy=>?_
 have hy:W8 y:=hy.out
 obtain ⟨rl,ml,tl,pl⟩:=y
 obtain ⟨⟨Dk,vo⟩,⟨ahL,jH⟩,⟨II,ahM⟩,j8,tm⟩:=hy
 simp only at Dk vo ahL jH II ahM j8 tm
 obtain ⟨R,hR⟩:∃R,R=rl.map (·.w):=⟨_,rfl⟩
 obtain ⟨T,hT⟩:∃T,T=tl.map (·.w):=⟨_,rfl⟩
 obtain ⟨M,hM⟩:∃M,M=ml.map (λm=>(m.w,m.words)):=⟨_,rfl⟩
 have rX:R.length<=1000:=by rw [hR,qJ];omega
 have w7:T.length<=1000:=by rw [hT,qJ];omega
 have kq:ml.length<=1000:=by omega
 have lA:∀d,(⟨R,T,M⟩:oq).sc d=⟨R,T,ml.map λm=>(m.w,m.words),d⟩:=λd=>by rw [<-hM];rfl
 have auj:∀e n,WT ⟨R,[],ml.map λm=>(m.w,m.words),false⟩ n 1 e->WT ((⟨R,T,M⟩:oq).sc false) n 1 e:=λe n h=>by rw [lA];exact WT.more (sc:=⟨R,[],ml.map λm=>(m.w,m.words),false⟩) (sc':=⟨R,T,ml.map λm=>(m.w,m.words),false⟩) rfl rfl (λh=>by cases h) h
 have tk0:CN ⟨R,T,M⟩ 0 tl:=⟨hT.symm,II,λj t h=>by have:=ahM t (cb h);exact ⟨this.1,this.2.1,λh=>by omega⟩⟩
 have rg0:CP ⟨R,T,M⟩ 0 rl:=⟨hR.symm,Dk,λj t h=>by have:=vo t (cb h);exact ⟨this.1,this.2.1,λh=>by omega⟩⟩
 have pt0:CQ ⟨R,T,M⟩ 0 pl:=⟨j8,λj t h=>by have:=tm t (cb h);exact ⟨this.1,this.2.1,λh=>by omega⟩⟩
 have mm0:CR ⟨R,T,M⟩ 0 ml:=⟨hM.symm,ahL,λj t h=>by have:=jH t (cb h);exact ⟨this.1,this.2.1,this.2.2.1,this.2.2.2.1,λh=>by omega⟩⟩
 cbv
 refine Sat.cf (KM 2 2) 9 6 [] (λx:ML Take=>[(6,.i .i64 λ_=>(x.i:Int))]) (λx=>[(4,.dyn 154 9 (y8 2) λ_=>x.l),(8,.fix 142 [.sl 1 jq (λ_=>bs),.i .i64 (λ_=>(x.q:Int))])])
  (λx=>CS (λi l1=>CN ⟨R,T,M⟩ i l1) 9 x) (λx=>x.l.length - x.i) ⟨0,9,tl⟩ (by exact ao) (by exact ao) ?_ ?_
 ·exact ⟨cN _,tk0,cR _⟩
 rintro ⟨i,q,l1⟩ hJ
 have hJ:CS (λi l1=>CN ⟨R,T,M⟩ i l1) 9 ⟨i,q,l1⟩:=hJ
 have bt:i<=l1.length:=hJ.le
 have cg:CN ⟨R,T,M⟩ i l1:=hJ.ok
 have yb:q<=9+40*i:=hJ.q
 have oh:=cg.len
 have h0:=n0 i
 have h1:=cq (i:=i) (by omega)
 cbv
 refine ⟨λh=>?_,λh=>?_⟩
 ·have aR:i < l1.length:=bI
  have bh:∀z,(l1.set i z).length - (i+1) < l1.length - i:=λz=>by rw [km];omega
  refine (bD aR).elim λtk IN=>?_
  have aBr:=cg.all i tk IN
  have iT:0<=(i:Int)/\(i:Int).toNat < l1.length:=⟨h0,aR⟩
  have HY:q+10<=1000000:=by omega
  cbv
  refine bV.jU (UB 2) (λa y=>VK a y) ⟨bs,q,R,[],ml,false⟩ [3] rfl (by have dJ:=hR.symm;have rU:=hT.symm;exact cP) (by exact ao) ⟨⟨eS,HY,rX,cN _,kq⟩⟩ λy1 gg=>?_
  have gg:Hz ⟨bs,q,R,[],ml,false⟩ y1:=gg.out
  have F2:=auj _ _ gg.e
  have bB:=cg.set IN F2.up
  have qY:=AW 1 gg.e
  have rT:y1.p<=9+40*(i+1):=by have h2:y1.p<=q+10:=gg.hi;omega
  cbv
  refine ⟨⟨iT⟩,(tk,⟨tk.chan,tk.w,y1.e⟩),⟨IN,rfl,by have et:=qY;exact dx⟩,?_⟩
  cbv
  exact ⟨⟨i+1,y1.p,l1.set i ⟨tk.chan,tk.w,y1.e⟩⟩,by have bg:=h1;exact bJ,by exact ao,⟨⟨⟨by rw [km];exact aR,bB,rT⟩,bh _⟩⟩⟩
 ·have b9:i=l1.length:=tR h.out bt
  have hqR:q<=100:=by omega
  rw [b9] at cg
  cbv
  refine (⟨_,rfl⟩:∃q0:Nat,q0=q).elim λq0 oW=>?_
  have IN:=cg
  refine Sat.cf (KM 2 2) 9 8 [] (λx:ML tv=>[(8,.i .i64 λ_=>(x.i:Int))]) (λx=>[(2,.dyn 159 13 (zm 2) λ_=>x.l),(8,.fix 142 [.sl 1 jq (λ_=>bs),.i .i64 (λ_=>(x.q:Int))])])
   (λx=>CS (λi l2=>CP ⟨R,T,M⟩ i l2) 100 x) (λx=>x.l.length - x.i) ⟨0,q,rl⟩ (by exact ao) (by exact ao) ?_ ?_
  ·exact ⟨cN _,rg0,by show q<=100+40*0;omega⟩
  clear hJ bt oh h0 h1
  clear cg yb
  rintro ⟨i,q,l2⟩ hJ
  have hJ:CS (λi l2=>CP ⟨R,T,M⟩ i l2) 100 ⟨i,q,l2⟩:=hJ
  have bt:i<=l2.length:=hJ.le
  have cg:CP ⟨R,T,M⟩ i l2:=hJ.ok
  have yb:q<=100+40*i:=hJ.q
  have oh:=cg.len
  have h0:=n0 i
  have h1:=cq (i:=i) (by omega)
  cbv
  refine ⟨λh=>?_,λh=>?_⟩
  ·have aR:i < l2.length:=bI
   have bh:∀z,(l2.set i z).length - (i+1) < l2.length - i:=λz=>by rw [km];omega
   refine (bD aR).elim λrg Bt=>?_
   have ahN:=cg.all i rg Bt
   have iT:0<=(i:Int)/\(i:Int).toNat < l2.length:=⟨h0,aR⟩
   have HY:q+10<=1000000:=by omega
   have A6:q+13<=1000000:=by omega
   have QI:1<=rg.w/\rg.w<=3:=⟨ahN.1,ahN.2.1⟩
   cbv
   refine ⟨⟨iT⟩,rg,⟨Bt,rfl⟩,?_⟩
   cbv
   by_cases iB:i=0
   ·have Xb:IntKind.i64.wrap (3 - min (i:Int) 1)=((2+1:Nat):Int):=by rw [iB];decide
    have w6:1<=rg.w/\rg.w+2<=8:=by omega
    refine bV.jU (aqs 2) (λa y=>pf 2 a y) ⟨bs,q,R,T,ml,true,rg.w⟩ [3] rfl (by have dJ:=hR.symm;have rU:=hT.symm;have bg:=Xb;exact cP) (by exact ao) ⟨⟨eS,A6,rX,w7,kq,by decide,w6⟩⟩ λy1 gg=>?_
    have gg:l5 2 ⟨bs,q,R,T,ml,true,rg.w⟩ y1:=gg.out
    have F2:WT ((⟨R,T,M⟩:oq).sc true) 3 rg.w y1.e:=by rw [lA];exact gg.e
    have bB:=cg.set Bt F2
    have rT:y1.p<=100+40*(i+1):=by have h2:y1.p<=q+KT 2:=gg.hi;have:KT 2=13:=rfl;omega
    cbv
    refine ⟨⟨iT⟩,(rg,⟨rg.name,rg.w,rg.init,y1.e,rg.s9⟩),⟨Bt,rfl,by exact aK⟩,?_⟩
    cbv
    exact ⟨⟨i+1,y1.p,l2.set i ⟨rg.name,rg.w,rg.init,y1.e,rg.s9⟩⟩,by have bg:=h1;exact bJ,by exact ao,⟨⟨⟨by rw [km];exact aR,bB,rT⟩,bh _⟩⟩⟩
   ·have Xb:IntKind.i64.wrap (3 - min (i:Int) 1)=((1+1:Nat):Int):=by rw [Int.min_eq_right (by omega)];decide
    have w6:1<=rg.w/\rg.w+1<=8:=by omega
    have A6:q+4<=1000000:=by omega
    refine bV.jU (Ho 2) (λa y=>pf 1 a y) ⟨bs,q,R,T,ml,true,rg.w⟩ [3] rfl (by have dJ:=hR.symm;have rU:=hT.symm;have bg:=Xb;exact cP) (by exact ao) ⟨⟨eS,A6,rX,w7,kq,by decide,w6⟩⟩ λy1 gg=>?_
    have gg:l5 1 ⟨bs,q,R,T,ml,true,rg.w⟩ y1:=gg.out
    have F2:WT ((⟨R,T,M⟩:oq).sc true) 3 rg.w y1.e:=by rw [lA];exact gg.e.up
    have bB:=cg.set Bt F2
    have rT:y1.p<=100+40*(i+1):=by have h2:y1.p<=q+KT 1:=gg.hi;have:KT 1=4:=rfl;omega
    have qY:=AW 1 gg.e
    cbv
    refine ⟨⟨iT⟩,(rg,⟨rg.name,rg.w,rg.init,y1.e,rg.s9⟩),⟨Bt,rfl,by have et:=qY;exact dx⟩,?_⟩
    cbv
    exact ⟨⟨i+1,y1.p,l2.set i ⟨rg.name,rg.w,rg.init,y1.e,rg.s9⟩⟩,by have bg:=h1;exact bJ,by exact ao,⟨⟨⟨by rw [km];exact aR,bB,rT⟩,bh _⟩⟩⟩
  ·have b9:i=l2.length:=tR h.out bt
   have hqR:q<=300:=by omega
   rw [b9] at cg
   cbv
   have jK:=cg
   refine (⟨_,rfl⟩:∃q0:Nat,q0=q).elim λq0 oW=>?_
   refine Sat.cf (KM 2 2) 9 10 [] (λx:ML rV=>[(10,.i .i64 λ_=>(x.i:Int))]) (λx=>[(5,.dyn 161 16 (zn 2) λ_=>x.l),(8,.fix 142 [.sl 1 jq (λ_=>bs),.i .i64 (λ_=>(x.q:Int))])])
    (λx=>CS (λi l3=>CQ ⟨R,T,M⟩ i l3) 300 x) (λx=>x.l.length - x.i) ⟨0,q,pl⟩ (by exact ao) (by exact ao) ?_ ?_
   ·exact ⟨cN _,pt0,by show q<=300+40*0;omega⟩
   clear hJ bt oh h0 h1
   clear cg yb
   rintro ⟨i,q,l3⟩ hJ
   have hJ:CS (λi l3=>CQ ⟨R,T,M⟩ i l3) 300 ⟨i,q,l3⟩:=hJ
   have bt:i<=l3.length:=hJ.le
   have cg:CQ ⟨R,T,M⟩ i l3:=hJ.ok
   have yb:q<=300+40*i:=hJ.q
   have oh:=cg.len
   have h0:=n0 i
   have h1:=cq (i:=i) (by omega)
   cbv
   refine ⟨λh=>?_,λh=>?_⟩
   ·have aR:i < l3.length:=bI
    have bh:∀z,(l3.set i z).length - (i+1) < l3.length - i:=λz=>by rw [km];omega
    refine (bD aR).elim λpt Dm=>?_
    have ahO:=cg.all i pt Dm
    have iT:0<=(i:Int)/\(i:Int).toNat < l3.length:=⟨h0,aR⟩
    have HY:q+10<=1000000:=by omega
    have QI:1<=pt.w/\pt.w+1<=8:=⟨ahO.1,by have:=ahO.2.1;omega⟩
    cbv
    refine bV.jU (UB 2) (λa y=>VK a y) ⟨bs,q,R,T,ml,true⟩ [3] rfl (by have dJ:=hR.symm;have rU:=hT.symm;exact cP) (by exact ao) ⟨⟨eS,HY,rX,w7,kq⟩⟩ λy1 gg=>?_
    have gg:Hz ⟨bs,q,R,T,ml,true⟩ y1:=gg.out
    have YP:y1.p+4<=1000000:=by have h2:y1.p<=q+10:=gg.hi;omega
    have Iq:WT ((⟨R,T,M⟩:oq).sc true) 3 1 y1.e:=by rw [lA];exact gg.e.up
    have Xc:=AW 1 gg.e
    cbv
    refine ⟨⟨iT⟩,pt,⟨Dm,rfl⟩,?_⟩
    cbv
    refine bV.jU (Ho 2) (λa y=>pf 1 a y) ⟨bs,y1.p,R,T,ml,true,pt.w⟩ [3] rfl (by have dJ:=hR.symm;have rU:=hT.symm;exact cP) (by exact ao) ⟨⟨eS,YP,rX,w7,kq,by decide,QI⟩⟩ λy2 jj=>?_
    have jj:l5 1 ⟨bs,y1.p,R,T,ml,true,pt.w⟩ y2:=jj.out
    have yq:WT ((⟨R,T,M⟩:oq).sc true) 3 pt.w y2.e:=by rw [lA];exact jj.e.up
    have ahP:=AW 1 jj.e
    have bB:=cg.set Dm Iq yq
    have rT:y2.p<=300+40*(i+1):=by have h2:y1.p<=q+10:=gg.hi;have h3:y2.p<=y1.p+KT 1:=jj.hi;have:KT 1=4:=rfl;omega
    have QJ:0<=(i:Int)/\(i:Int).toNat < (l3.set i (⟨pt.chan,pt.w,y1.e,pt.data⟩:rV)).length:=by rw [km];exact iT
    have auk:(l3.set i (⟨pt.chan,pt.w,y1.e,pt.data⟩:rV))[(i:Int).toNat]?=some ⟨pt.chan,pt.w,y1.e,pt.data⟩:=o9 aR
    cbv
    refine ⟨⟨iT⟩,(pt,⟨pt.chan,pt.w,y1.e,pt.data⟩),⟨Dm,rfl,by have et:=Xc;exact dx⟩,?_⟩
    cbv
    refine ⟨⟨QJ⟩,(⟨pt.chan,pt.w,y1.e,pt.data⟩,⟨pt.chan,pt.w,y1.e,y2.e⟩),⟨auk,rfl,by have et:=ahP;exact dx⟩,?_⟩
    cbv
    exact ⟨⟨i+1,y2.p,(l3.set i ⟨pt.chan,pt.w,y1.e,pt.data⟩).set i ⟨pt.chan,pt.w,y1.e,y2.e⟩⟩,by have bg:=h1;exact bJ,by exact ao,⟨by rw [Oe];exact ⟨⟨by rw [km];exact aR,bB,rT⟩,bh _⟩⟩⟩
   ·have b9:i=l3.length:=tR h.out bt
    have hqR:q<=500:=by omega
    rw [b9] at cg
    cbv
    have vA:=cg
    refine (⟨_,rfl⟩:∃q0:Nat,q0=q).elim λq0 oW=>?_
    refine (⟨_,rfl⟩:∃wv:Int,wv=IntKind.i64.wrap (1+((bs.length:Nat):Int).tmod 2)).elim λwv qq=>?_
    have QK:1<=wv/\wv<=2:=by rw [qq,kC (by omega),cu (by omega) (by omega)];omega
    refine Sat.cf (KM 2 2) 9 13 [] (λx:ML Mem=>[(13,.i .i64 λ_=>(x.i:Int))]) (λx=>[(3,.dyn 163 27 (sA 2) λ_=>x.l),(8,.fix 142 [.sl 1 jq (λ_=>bs),.i .i64 (λ_=>(x.q:Int))])])
     (λx=>CS (λi l4=>CR ⟨R,T,M⟩ i l4) 500 x) (λx=>x.l.length - x.i) ⟨0,q,ml⟩ (by exact ao) (by exact ao) ?_ ?_
    ·exact ⟨cN _,mm0,by show q<=500+40*0;omega⟩
    clear hJ bt oh h0 h1
    clear cg yb
    rintro ⟨i,q,l4⟩ hJ
    have hJ:CS (λi l4=>CR ⟨R,T,M⟩ i l4) 500 ⟨i,q,l4⟩:=hJ
    have bt:i<=l4.length:=hJ.le
    have cg:CR ⟨R,T,M⟩ i l4:=hJ.ok
    have yb:q<=500+40*i:=hJ.q
    have oh:=cg.len
    have h0:=n0 i
    have h1:=cq (i:=i) (by omega)
    cbv
    refine ⟨λh=>?_,λh=>?_⟩
    ·have aR:i < l4.length:=bI
     have bh:∀z,(l4.set i z).length - (i+1) < l4.length - i:=λz=>by rw [km];omega
     refine (bD aR).elim λmm uu=>?_
     have ahQ:=cg.all i mm uu
     have iT:0<=(i:Int)/\(i:Int).toNat < l4.length:=⟨h0,aR⟩
     have HY:q+10<=1000000:=by omega
     have QI:1<=mm.w/\mm.w+1<=8:=⟨ahQ.1,by have:=ahQ.2.1;omega⟩
     have aul:1<=wv/\wv+0<=8:=by omega
     have kq:l4.length<=1000:=by omega
     have lA:∀d,(⟨R,T,M⟩:oq).sc d=⟨R,T,l4.map λm=>(m.w,m.words),d⟩:=λd=>by rw [cg.w];rfl
     cbv
     refine bV.jU (UB 2) (λa y=>VK a y) ⟨bs,q,R,T,l4,true⟩ [3] rfl (by have dJ:=hR.symm;have rU:=hT.symm;exact cP) (by exact ao) ⟨⟨eS,HY,rX,w7,kq⟩⟩ λy1 gg=>?_
     have gg:Hz ⟨bs,q,R,T,l4,true⟩ y1:=gg.out
     have aBs:y1.p<=q+10:=gg.hi
     have Mu:y1.p+1<=1000000:=by omega
     have Iq:WT ((⟨R,T,M⟩:oq).sc true) 3 1 y1.e:=by rw [lA];exact gg.e.up
     have Xc:=AW 1 gg.e
     cbv
     refine ⟨⟨by decide⟩,?_⟩
     cbv
     refine bV.jU (Vb 2) (λa y=>pf 0 a y) ⟨bs,y1.p,R,T,l4,true,wv⟩ [3] rfl (by have dJ:=hR.symm;have rU:=hT.symm;have bg:=qq.symm;exact cP) (by exact ao) ⟨⟨eS,Mu,rX,w7,kq,by decide,aul⟩⟩ λy2 jj=>?_
     have jj:l5 0 ⟨bs,y1.p,R,T,l4,true,wv⟩ y2:=jj.out
     have aBt:y2.p<=y1.p+1:=jj.hi
     have YP:y2.p+4<=1000000:=by omega
     have yq:WT ((⟨R,T,M⟩:oq).sc true) 3 wv y2.e:=by rw [lA];exact jj.e.up.up
     have ahP:=AW 0 jj.e
     have aA2:=AW 1 jj.e.up
     have aum:Le (cA 0 y2.e) (cA 2 y2.e):=.dg jj.e.aeP (λy=>(oF 1 y).1)
     cbv
     refine ⟨⟨iT⟩,mm,⟨uu,rfl⟩,?_⟩
     cbv
     refine bV.jU (Ho 2) (λa y=>pf 1 a y) ⟨bs,y2.p,R,T,l4,true,mm.w⟩ [3] rfl (by have dJ:=hR.symm;have rU:=hT.symm;exact cP) (by exact ao) ⟨⟨eS,YP,rX,w7,kq,by decide,QI⟩⟩ λy3 yl=>?_
     have yl:l5 1 ⟨bs,y2.p,R,T,l4,true,mm.w⟩ y3:=yl.out
     have F2:WT ((⟨R,T,M⟩:oq).sc true) 3 mm.w y3.e:=by rw [lA];exact yl.e.up
     have aun:=AW 1 yl.e
     have bB:=cg.set uu Iq yq F2
     have rT:y3.p<=500+40*(i+1):=by have h3:y3.p<=y2.p+KT 1:=yl.hi;have:KT 1=4:=rfl;omega
     refine (⟨_,rfl⟩:∃z1:Mem,z1=⟨mm.name,mm.w,mm.words,y1.e,mm.ad,mm.da,mm.s9⟩).elim λz1 iS=>?_
     refine (⟨_,rfl⟩:∃z2:Mem,z2=⟨mm.name,mm.w,mm.words,y1.e,y2.e,mm.da,mm.s9⟩).elim λz2 iH=>?_
     have QJ:0<=(i:Int)/\(i:Int).toNat < (l4.set i z1).length:=by rw [km];exact iT
     have auo:0<=(i:Int)/\(i:Int).toNat < ((l4.set i z1).set i z2).length:=by rw [km];exact QJ
     have aup:(l4.set i z1)[(i:Int).toNat]?=some z1:=o9 aR
     have auq:((l4.set i z1).set i z2)[(i:Int).toNat]?=some z2:=o9 (by rw [km];exact aR)
     cbv
     refine ⟨⟨iT⟩,(mm,z1),⟨uu,rfl,by subst iS;have et:=Xc;exact dx⟩,?_⟩
     cbv
     refine ⟨⟨QJ⟩,(z1,z2),⟨aup,rfl,by subst iS;subst iH;have et:=aum;exact dx⟩,?_⟩
     cbv
     refine ⟨⟨auo⟩,(z2,⟨mm.name,mm.w,mm.words,y1.e,y2.e,y3.e,mm.s9⟩),⟨auq,rfl,by subst iH;have et:=aun;exact dx⟩,?_⟩
     cbv
     exact ⟨⟨i+1,y3.p,((l4.set i z1).set i z2).set i ⟨mm.name,mm.w,mm.words,y1.e,y2.e,y3.e,mm.s9⟩⟩,by have bg:=h1;exact bJ,by exact ao,⟨by rw [Oe,Oe];exact ⟨⟨by rw [km];exact aR,bB,rT⟩,bh _⟩⟩⟩
    ·have b9:i=l4.length:=tR h.out bt
     rw [b9] at cg
     have rN:rG ⟨sp,sa,l2,l4,l1,l3⟩:=aqx jK cg IN vA
     cbv
     exact .mk' ⟨sp,sa,l2,l4,l1,l3⟩ ⟨by exact bQ⟩ rN
end Go.Proofs.Pk
