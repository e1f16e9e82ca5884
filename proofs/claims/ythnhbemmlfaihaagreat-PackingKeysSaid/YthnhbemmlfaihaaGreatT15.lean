import Derived.Test.YthnhbemmlfaihaaGreatT12
import Derived.Test.YthnhbemmlfaihaaGreatT14
set_option linter.unusedVariables false
set_option linter.unusedSimpArgs false
set_option maxRecDepth 10000
set_option maxHeartbeats 64000000
namespace Go.Proofs.Pk
open Go Go.Vc
@[reducible] noncomputable def aqz:fO where
 α:=NC
 args x:=[.agg (sH x.n),.agg [.i .i64 (λ_=>x.c.root),.sl 1 bK (λ_=>x.c.l)]]
 pre x:=eU x.n/\x.c.l.length<=1000000
 β:=Int
 post x y:=y=0->za x.c=true
 res x y:=.i .i64 (λ_=>y)
noncomputable def cCh (n m:Nat):Ctx:=fy n m [(238,Tryz.f238)] [] [238]
theorem asa (n m:Nat):CB PP (cCh n m):=fF n m ⟨fo Tryz.func238,trivial⟩ trivial
theorem aoq:eM PP 185 aqz:=by
 refine iQ (asa 0 0) (fo Tryz.func185) (λa=>⟨tZ a.n,⟨trivial,(λx=>(cP x).1),trivial⟩,trivial⟩) (λa y=>trivial) ?_
 rintro ⟨n,⟨root,l⟩⟩ hx
 have hx:eU n/\l.length<=1000000:=hx
 refine ⟨?_⟩
 cbv
 refine bV.rel adU ⟨n,⟨root,l⟩⟩ (by exact aL) ⟨hx⟩ λy hy=>?_
 have hy:Kq n ⟨root,l⟩ y:=hy.out
 cbv
 exact .mk' y.e ⟨by exact aL⟩ (λh=>(hy.ok h).1)
structure Tab where
 t:Int
 e:Int
structure Vj (c:Cut) (y:Tab):Prop where
 ok:c.l.length<=4->0<=y.t/\y.t < 2^(2^c.l.length)
@[reducible] noncomputable def aqA:fO where
 α:=NC
 args x:=[.agg (sH x.n),.agg [.i .i64 (λ_=>x.c.root),.sl 1 bK (λ_=>x.c.l)]]
 pre x:=eU x.n/\x.c.l.length<=1000000
 β:=Tab
 post x y:=Vj x.c y
 res x y:=.agg [.i .i64 (λ_=>y.t),.i .i64 (λ_=>y.e)]
theorem aqB {T i:Nat} (h:T < 2^i):T ||| 2^i < 2^(i+1):=Th (TA h (Hg (by decide) (N4 _))) (Hg (by decide) (N4 _))
theorem ahs {a b:Nat} (ha:a < 65536) (hb:b < 65536):kT .or .i64 (a:Int) (b:Int)=((a ||| b:Nat):Int):=by
 have h:a ||| b < 65536:=Th (n:=16) ha hb
 unfold kT
 simp only
 have e:(BitVec.ofInt IntKind.i64.bits (a:Int) ||| BitVec.ofInt IntKind.i64.bits (b:Int)).toNat=a ||| b:=by
  rw [BitVec.toNat_or,BitVec.ofInt_natCast,BitVec.ofInt_natCast,BitVec.toNat_ofNat,BitVec.toNat_ofNat]
  show a % 2^64 ||| b % 2^64=a ||| b
  rw [Tl (show a < 2^64 by omega),Tl (show b < 2^64 by omega)]
 rw [e,cD (by omega) (by omega)]
theorem aht {i:Nat} (h:i < 16):0<=IntKind.u64.wrap (i:Int)/\IntKind.i64.wrap (1*2^(min (IntKind.u64.wrap (i:Int)).toNat IntKind.i64.bits))=((2^i:Nat):Int):=by
 have:i=0\/i=1\/i=2\/i=3\/i=4\/i=5\/i=6\/i=7\/i=8\/i=9\/i=10\/i=11\/i=12\/i=13\/i=14\/i=15:=by omega
 rcases this with e|e|e|e|e|e|e|e|e|e|e|e|e|e|e|e<;>subst e<;>exact ⟨by decide,rfl⟩
structure TG where
 i:Nat
 t:Int
structure WZ (n:Nat) (x:TG):Prop where
 i:x.i<=n
 lo:0<=x.t
 hi:x.t < 2^x.i
noncomputable def cTa (n m:Nat):Ctx:=fy n m [(238,Tryz.f238)] [(51,AU),(239,aeP)] [238]
theorem PN (n m:Nat):CB PP (cTa n m):=fF n m ⟨fo Tryz.func238,trivial⟩ ⟨Cp,aop,trivial⟩
theorem aor:eM PP 184 aqA:=by
 refine iQ (PN 0 0) (fo Tryz.func184) (λa=>⟨tZ a.n,⟨trivial,(λx=>(cP x).1),trivial⟩,trivial⟩) (λa y=>⟨trivial,trivial,trivial⟩) ?_
 rintro ⟨⟨ins,gs,outs,dr⟩,⟨root,l⟩⟩ hx
 obtain ⟨hn,hl⟩:eU ⟨ins,gs,outs,dr⟩/\l.length<=1000000:=hx
 have wK:2+ins.length+gs.length<=600:=hn.pI
 have YF:∀(i:Nat) (g:Gate),gs[i]?=some g->ud (2+ins.length+i) g:=hn.gP
 have wY:=hl
 refine ⟨?_⟩
 cbv
 refine bV.rel adU ⟨⟨ins,gs,outs,dr⟩,⟨root,l⟩⟩ (by exact aL) ⟨hn,wY⟩ λy hy=>?_
 have hy:Kq ⟨ins,gs,outs,dr⟩ ⟨root,l⟩ y:=hy.out
 cbv
 refine ⟨λh=>?_,λh=>?_⟩
 ·cbv
  exact .mk' ⟨0,y.e⟩ ⟨by exact aL⟩ ⟨λ_=>⟨jR _,by show (0:Int) < 2^(2^l.length);exact Int.pow_pos (by decide)⟩⟩
 ·have he:y.e=0:=by have h':(!aV y.e 0)=false:=h.out;simpa [aV] using h'
  obtain ⟨nG,sM,Rp,afZ,ql⟩:=hy.ok he
  obtain ⟨gB,Rr⟩:=NL.1 nG
  simp only at gB Rr sM Rp afZ
  have nv:fT ⟨ins,gs,outs,dr⟩=((2+ins.length+gs.length:Nat):Int):=by unfold fT;simp only;omega
  obtain ⟨N,hN⟩:∃N,N=2+ins.length+gs.length:=⟨_,rfl⟩
  rw [<-hN] at nv
  have aAZ:root < N:=by rw [<-nv];exact Rp
  have hw:IntKind.i64.wrap (1*2^(min (IntKind.u64.wrap (l.length:Int)).toNat IntKind.i64.bits))=((2^l.length:Nat):Int):=by
   have:l.length=0\/l.length=1\/l.length=2\/l.length=3\/l.length=4:=by omega
   rcases this with e|e|e|e|e<;>rw [e]<;>rfl
  have at5:2^l.length<=16:=by
   have:l.length=0\/l.length=1\/l.length=2\/l.length=3\/l.length=4:=by omega
   rcases this with e|e|e|e|e<;>rw [e]<;>decide
  have qt:0<=IntKind.u64.wrap (l.length:Int):=by
   have:l.length=0\/l.length=1\/l.length=2\/l.length=3\/l.length=4:=by omega
   rcases this with e|e|e|e|e<;>rw [e]<;>decide
  obtain ⟨P,hP⟩:∃P,P=2^l.length:=⟨_,rfl⟩
  rw [<-hP] at hw at5
  cbv
  refine Sat.cd (PN 0 0) 5 7 [] (λx:TG=>[(7,.i .i64 λ_=>(x.i:Int))]) (λx=>[(4,.fix 326 [.i .i64 (λ_=>x.t),.ic .i64 0])])
   (λx=>WZ P x) (λx=>P - x.i) ⟨0,0⟩ (by exact ao) (by exact ao) ⟨cL _,jR _,by decide⟩ ?_
  rintro ⟨i,t⟩ ⟨hi,Du,IZ⟩
  simp only at hi Du IZ
  have iD:=n0 i
  have mR:=cj (i:=i) (by omega)
  have tp:(List.replicate (fT ⟨ins,gs,outs,dr⟩).toNat false).length=N:=by rw [si,nv];rfl
  have hN2:2<=N/\N<=600:=by omega
  have h1N:(0:Int)<=1/\(1:Int).toNat < (List.replicate (fT ⟨ins,gs,outs,dr⟩).toNat false).length:=by rw [tp];exact ⟨by decide,by show 1 < N;omega⟩
  obtain ⟨b0,ei⟩:=bB h1N.2
  cbv
  refine ⟨⟨qt⟩,?_⟩
  cbv
  refine ⟨λh=>?_,λh=>?_⟩
  ·have Rs:i < P:=by have h':aS (i:Int) (IntKind.i64.wrap (1*2^(min (IntKind.u64.wrap (l.length:Int)).toNat IntKind.i64.bits)))=true:=h.out;rw [hw] at h';simp only [aS,decide_eq_true_eq] at h';exact aU
   have a7:P - (i+1) < P - i:=by omega
   cbv
   refine ⟨⟨ins,gs,outs,dr⟩,⟨by exact aL,by show 2+ins.length+gs.length<=_;omega⟩,?_⟩
   cbv
   refine ⟨⟨by show 0<=fT ⟨ins,gs,outs,dr⟩;rw [nv];exact aU,jR _,by show (1:Int)*fT ⟨ins,gs,outs,dr⟩<=_;rw [nv];exact aU,by show fT ⟨ins,gs,outs,dr⟩<=_;rw [nv];exact aU⟩,?_⟩
   cbv
   refine ⟨⟨h1N⟩,?_⟩
   cbv
   refine ⟨(b0,true),⟨ei,rfl,by exact aL⟩,?_⟩
   cbv
   have at6:((List.replicate (fT ⟨ins,gs,outs,dr⟩).toNat false).set (1:Int).toNat true).length=N:=by rw [kO];exact tp
   refine Sat.cd (PN 0 0) 6 9 [] (λx:Nat × List Bool=>[(9,.i .i64 λ_=>(x.1:Int))]) (λx=>[(5,.dyn 4 1 jc λ_=>x.2)])
    (λx=>x.1<=l.length/\x.2.length=N) (λx=>l.length - x.1) (0,(List.replicate (fT ⟨ins,gs,outs,dr⟩).toNat false).set (1:Int).toNat true) (by exact ao) (by exact ao) ⟨cL _,at6⟩ ?_
   rintro ⟨k,v⟩ ⟨hk,hv⟩
   simp only at hk hv
   have gS:=n0 k
   have eX:=cj (i:=k) (by omega)
   cbv
   refine ⟨λh=>?_,λh=>?_⟩
   ·have db:k < l.length:=by have h':aS (k:Int) (l.length:Int)=true:=h.out;simp only [aS,decide_eq_true_eq] at h';exact aU
    have Lw:l.length - (k+1) < l.length - k:=by omega
    obtain ⟨x,hx⟩:=bB db
    have YH:=gB k x hx
    have oR:0<=x/\x.toNat < v.length:=by exact aU
    obtain ⟨b,hb⟩:=bB oR.2
    have YI:=(aht (i:=k) (by omega)).1
    obtain ⟨bb,zW⟩:∃bb,bb=aV (kT .and .i64 ((i:Int).fdiv (2^(min (IntKind.u64.wrap (k:Int)).toNat IntKind.i64.bits))) 1) 1:=⟨_,rfl⟩
    have zx:(v.set x.toNat bb).length=N:=by rw [kO];exact hv
    cbv
    refine ⟨x,⟨gS,hx⟩,?_⟩
    cbv
    refine ⟨⟨YI⟩,?_⟩
    cbv
    refine ⟨⟨oR⟩,?_⟩
    cbv
    refine ⟨(b,bb),⟨hb,rfl,.cons (.b zW.symm) .nil⟩,?_⟩
    cbv
    exact ⟨(k+1,v.set x.toNat bb),by have bm:=eX;exact bI,by exact ao,⟨⟨db,zx⟩,Lw⟩⟩
   ·cbv
    refine Sat.cd (PN 0 0) 6 9 [] (λx:Nat × List Bool=>[(10,.i .i64 λ_=>(x.1:Int))]) (λx=>[(5,.dyn 4 1 jc λ_=>x.2)])
     (λx=>x.1<=y.l.length/\x.2.length=N) (λx=>y.l.length - x.1) (0,v) (by exact ao) (by exact ao) ⟨cL _,hv⟩ ?_
    rintro ⟨j,v⟩ ⟨hj,hv⟩
    simp only at hj hv
    have iO:=n0 j
    have vF:=cj (i:=j) (by omega)
    cbv
    refine ⟨λh=>?_,λh=>?_⟩
    ·have eE:j < y.l.length:=by have h':aS (j:Int) (y.l.length:Int)=true:=h.out;simp only [aS,decide_eq_true_eq] at h';exact aU
     have W0:y.l.length - (j+1) < y.l.length - j:=by omega
     obtain ⟨x,hx⟩:=bB eE
     have YH:=afZ x (cb hx)
     obtain ⟨g,hg⟩:=bB (l:=gs) (i:=(x - 2 - ins.length).toNat) (by exact aU)
     have G:=YF _ g hg
     have gE:(0<=IntKind.i64.wrap (IntKind.i64.wrap (x - 2) - (ins.length:Int)))/\gs[(IntKind.i64.wrap (IntKind.i64.wrap (x - 2) - (ins.length:Int))).toNat]?=some g:=by
      rw [cD (n:=x - 2) (by exact aU) (by exact aU),cD (by exact aU) (by exact aU)];exact ⟨by exact aU,hg⟩
     have ha:=G.a
     have hb:=G.b
     have hc:=G.c
     have Dv:0<=g.a/\g.a.toNat < v.length:=by exact aU
     have hbv:0<=g.b/\g.b.toNat < v.length:=by exact aU
     have oV:0<=g.c/\g.c.toNat < v.length:=by exact aU
     have oR:0<=x/\x.toNat < v.length:=by exact aU
     obtain ⟨ba,hba⟩:=bB Dv.2
     obtain ⟨bb,zW⟩:=bB hbv.2
     obtain ⟨bc,hbc⟩:=bB oV.2
     obtain ⟨bx,wX⟩:=bB oR.2
     obtain ⟨r,hr⟩:∃r,r=PM g.op ba bb bc:=⟨_,rfl⟩
     have zx:(v.set x.toNat r).length=N:=by rw [kO];exact hv
     cbv
     refine ⟨x,⟨iO,hx⟩,?_⟩
     cbv
     refine ⟨g,⟨gE⟩,?_⟩
     cbv
     refine ⟨x,⟨iO,hx⟩,?_⟩
     cbv
     refine ⟨⟨Dv⟩,?_⟩
     cbv
     refine ⟨ba,⟨hba,rfl⟩,?_⟩
     cbv
     refine ⟨⟨hbv⟩,?_⟩
     cbv
     refine ⟨bb,⟨zW,rfl⟩,?_⟩
     cbv
     refine ⟨⟨oV⟩,?_⟩
     cbv
     refine ⟨bc,⟨hbc,rfl⟩,?_⟩
     cbv
     refine ⟨⟨g,ba,bb,bc⟩,⟨by exact aL,trivial⟩,?_⟩
     cbv
     refine ⟨⟨oR⟩,?_⟩
     cbv
     refine ⟨(bx,r),⟨wX,rfl,.cons (.b hr.symm) .nil⟩,?_⟩
     cbv
     exact ⟨(j+1,v.set x.toNat r),by have bm:=vF;exact bI,by exact ao,⟨⟨eE,zx⟩,W0⟩⟩
    ·have IS:0<=root/\root.toNat < v.length:=by exact aU
     obtain ⟨br,hbr⟩:=bB IS.2
     have ej:=aht (i:=i) (by omega)
     have qZ:((t.toNat:Nat):Int)=t:=by omega
     have Dw:t.toNat < 2^i:=by
      have h':((t.toNat:Nat):Int) < ((2^i:Nat):Int):=by rw [qZ];push_cast;exact IZ
      omega
     have h16:2^i < 65536:=Nat.lt_of_lt_of_le (Hg (by decide) (show i < 16 by omega)) (by decide)
     have hor:kT .or .i64 t (IntKind.i64.wrap (1*2^(min (IntKind.u64.wrap (i:Int)).toNat IntKind.i64.bits)))=((t.toNat ||| 2^i:Nat):Int):=by
      rw [ej.2,<-ahs (by omega) h16,qZ]
     have hT1:WZ P ⟨i+1,((t.toNat ||| 2^i:Nat):Int)⟩:=⟨Rs,GZ _,by
      have:=aqB Dw
      show ((t.toNat ||| 2^i:Nat):Int) < 2^(i+1)
      exact_mod_cast this⟩
     have hT2:WZ P ⟨i+1,t⟩:=⟨Rs,Du,by
      show t < 2^(i+1)
      rw [Int.pow_succ]
      have:(0:Int) < 2^i:=Int.pow_pos (by decide)
      omega⟩
     cbv
     refine ⟨⟨IS⟩,?_⟩
     cbv
     refine ⟨br,⟨hbr,rfl⟩,?_⟩
     cbv
     refine ⟨λh=>?_,λh=>?_⟩
     ·cbv
      refine ⟨⟨ej.1⟩,?_⟩
      cbv
      exact ⟨⟨i+1,((t.toNat ||| 2^i:Nat):Int)⟩,by have bm:=mR;exact bI,by have bm:=hor;exact bI,⟨⟨hT1,a7⟩⟩⟩
     ·cbv
      exact ⟨⟨i+1,t⟩,by have bm:=mR;exact bI,by exact ao,⟨⟨hT2,a7⟩⟩⟩
  ·have Rs:i=P:=by have h':aS (i:Int) (IntKind.i64.wrap (1*2^(min (IntKind.u64.wrap (l.length:Int)).toNat IntKind.i64.bits)))=false:=h.out;rw [hw] at h';simp only [aS,decide_eq_false_iff_not] at h';exact aU
   have hT:Vj ⟨root,l⟩ ⟨t,0⟩:=⟨λ_=>⟨Du,by show t < 2^(2^l.length);rw [<-hP,<-Rs];exact IZ⟩⟩
   cbv
   exact .mk' ⟨t,0⟩ ⟨by exact aL⟩ hT
def FD:List Int->List Int->Bool
 | x :: r,y :: s=>if x≠y then decide (x < y) else FD r s
 | _,_=>false
def Bb (a b:List Int):Bool:=if a.length≠b.length then decide (a.length < b.length) else FD a b
theorem apy {a b:List Int} {i:Nat} {x y:Int} (hx:a[i]?=some x) (hy:b[i]?=some y):FD (a.drop i) (b.drop i)=if x≠y then decide (x < y) else FD (a.drop (i+1)) (b.drop (i+1)):=by
 obtain ⟨h1,e1⟩:=bY.1 hx
 obtain ⟨h2,e2⟩:=bY.1 hy
 rw [abc h1,abc h2,e1,e2]
 rfl
@[reducible] noncomputable def Vk:Vc.Spec where
 α:=LL
 args x:=[.sl 1 bK (λ_=>x.a),.sl 1 bK (λ_=>x.b)]
 pre x:=x.a.length<=1000000/\x.b.length<=1000000
 res x:=.b (λ_=>Bb x.a x.b)
theorem acS:cW (PP ()) 183 Vk:=by
 refine dT (iR 0 0) (fo Tryz.func183) (λa=>⟨(λx=>(cP x).1),(λx=>(cP x).1),trivial⟩) (λa=>trivial) ?_
 rintro ⟨a,b⟩ hx
 obtain ⟨ha,hb⟩:a.length<=1000000/\b.length<=1000000:=hx
 refine ⟨?_⟩
 cbv
 refine ⟨λh=>?_,λh=>?_⟩
 ·have j3:a.length≠b.length:=by have:=h.out;simp [aV] at this;exact aU
  have e:aS (a.length:Int) (b.length:Int)=Bb a b:=by unfold Bb aS;rw [if_pos j3];simp
  cbv
  exact ⟨.b e⟩
 ·have j3:a.length=b.length:=by have:=h.out;simp [aV] at this;exact aU
  have e:Bb a b=FD a b:=by unfold Bb;rw [if_neg (by simpa using j3)]
  cbv
  refine Sat.cd (iR 0 0) 0 5 [] (λi:Nat=>[(5,.i .i64 λ_=>(i:Int))]) (λ_=>[]) (λi=>i<=a.length/\Bb a b=FD (a.drop i) (b.drop i)) (λi=>a.length - i) 0 (by exact ao) (by exact ao) ⟨by omega,by simpa using e⟩ ?_
  rintro i ⟨hi,he⟩
  cbv
  refine ⟨λh=>?_,λh=>?_⟩
  ·(have h:=h.out;simp (disch:=exact aU) only [hS] at h)
   have aR:i < a.length:=by exact aU
   have a7:a.length - (i+1) < a.length - i:=by omega
   obtain ⟨x,hx⟩:=bB aR
   obtain ⟨y,hy⟩:=bB (l:=b) (i:=i) (by omega)
   have hl:=apy hx hy
   have h1:=cj (i:=i) (by omega)
   have h0:=n0 i
   cbv
   refine ⟨x,⟨h0,hx⟩,?_⟩
   cbv
   refine ⟨y,⟨h0,hy⟩,?_⟩
   cbv
   refine ⟨λh=>?_,λh=>?_⟩
   ·have cT:x≠y:=by have:=h.out;simpa [aV] using this
    have e2:aS x y=Bb a b:=by rw [he,hl,if_pos cT];rfl
    cbv
    refine ⟨x,⟨h0,hx⟩,?_⟩
    cbv
    refine ⟨y,⟨h0,hy⟩,?_⟩
    cbv
    exact ⟨.b e2⟩
   ·have cT:x=y:=by have:=h.out;simpa [aV] using this
    have e2:Bb a b=FD (a.drop (i+1)) (b.drop (i+1)):=by rw [he,hl,if_neg (by simpa using cT)]
    cbv
    exact ⟨i+1,by have bm:=h1;exact bI,by exact ao,⟨⟨aR,e2⟩,a7⟩⟩
  ·(have h:=h.out;simp (disch:=exact aU) only [hS] at h)
   have bS:i=a.length:=by exact aU
   have e2:Bb a b=false:=by rw [he,bS,List.drop_length];rfl
   cbv
   exact ⟨.bc e2.symm⟩
structure Pn (l y:List (List Int)):Prop where
 len:y.length=l.length
 mem:∀z∈y,z∈l
@[reducible] noncomputable def at7:fO where
 α:=List (List Int)
 args x:=[.sl 1 jd (λ_=>x)]
 pre x:=x.length<=1000000000000/\∀y∈x,y.length<=1000000
 β:=List (List Int)
 post x y:=Pn x y
 res x y:=.sl 1 jd (λ_=>y)
structure OG where
 i:Nat
 o:List (List Int)
structure ahu (l:List (List Int)) (x:OG):Prop where
 i:x.i<=l.length
 len:x.o.length=x.i
 mem:∀z∈x.o,z∈l
noncomputable def at8 (n m:Nat):Ctx:=fy n m [] [(183,Vk)] [] [] [4]
theorem Vl (n m:Nat):CB PP (at8 n m):=fF n m trivial ⟨acS,trivial⟩
noncomputable def asb (n m:Nat):Ctx:=fy n m [] [(183,Vk)]
theorem adV (n m:Nat):CB PP (asb n m):=fF n m trivial ⟨acS,trivial⟩
theorem aeR:eM PP 125 at7:=by
 refine iQ (Vl 0 0) (fo Tryz.func125) (λa=>⟨(λx=>(qa x).1),trivial⟩) (λa y=>(λx=>(qa x).1)) ?_
 intro (l:List (List Int)) hx
 obtain ⟨hl,IY⟩:l.length<=1000000000000/\∀y∈l,y.length<=1000000:=hx
 refine ⟨?_⟩
 cbv
 refine Sat.cd (Vl 0 0) 1 3 [(.t 3,0)] (λx:OG=>[(3,.own 0),(4,.i .i64 λ_=>(x.i:Int))]) (λx=>[(0,.dyn 35 1 jd λ_=>x.o)])
  (λx=>ahu l x) (λx=>l.length - x.i) ⟨0,[]⟩ (by exact ao) (by exact ao) ⟨cL _,rfl,λz hz=>by simp at hz⟩ ?_
 rintro ⟨i,o⟩ ⟨hi,hlen,eS⟩
 simp only at hi hlen eS
 have h0:=n0 i
 have h1:=cj (i:=i) (by omega)
 cbv
 refine ⟨λh=>?_,λh=>?_⟩
 ·(have h:=h.out;simp (disch:=exact aU) only [hS] at h)
  have aR:i < l.length:=by exact aU
  obtain ⟨x,hx⟩:=bB aR
  have gW:=cb hx
  have qs:=IY x gW
  cbv
  refine Sat.cd (Vl 0 0) 1 5 [] (λk:Nat=>[(5,.i .i64 λ_=>(k:Int))]) (λ_=>[]) (λk=>k<=o.length) (λk=>o.length - k) 0 (by exact ao) (by exact ao) (by omega) ?_
  intro k hk
  have Rt:(k:Int)<=(o.length:Int):=by omega
  have l1:((o.take k).drop 0).length=k:=by simp;omega
  have l2:((o.take o.length).drop k).length=o.length - k:=by simp
  have l3:([]++(o.take k).drop 0:List (List Int)).length=k:=by rw [lg];exact l1
  have l4:(([]++(o.take k).drop 0)++[x]:List (List Int)).length=k+1:=by rw [gk,l3];rfl
  have hO:ahu l ⟨i+1,(([]++(o.take k).drop 0)++[x])++(o.take o.length).drop k⟩:=⟨aR,by show ((([]++(o.take k).drop 0)++[x])++(o.take o.length).drop k).length=i+1;rw [gk,l4,l2];omega,λz hz=>by
   simp only [lg,List.mem_append,Ch] at hz
   rcases hz with (hz|rfl)|hz
   ·exact eS z (s4 (sm hz))
   ·exact gW
   ·exact eS z (s4 (sm hz))⟩
  have hmO:l.length - (i+1) < l.length - i:=by omega
  have gS:=n0 k
  have eX:=cj (i:=k) (by omega)
  cbv
  refine ⟨λh=>?_,λh=>?_⟩
  ·(have h:=h.out;simp (disch:=exact aU) only [hS] at h)
   have db:k < o.length:=by exact aU
   obtain ⟨y,hy⟩:=bB db
   have rV:=IY y (eS y (cb hy))
   have a7:k+1<=o.length/\o.length - (k+1) < o.length - k:=by omega
   cbv
   refine ⟨⟨gS,db⟩,?_⟩
   cbv
   refine ⟨y,⟨hy,rfl⟩,?_⟩
   cbv
   refine ⟨x,⟨h0,hx⟩,?_⟩
   cbv
   refine ⟨⟨y,x⟩,⟨by exact aL,rV,qs⟩,?_⟩
   cbv
   refine ⟨λh=>?_,λh=>?_⟩
   ·cbv
    exact ⟨k+1,by have bm:=eX;exact bI,by exact ao,⟨a7⟩⟩
   ·skip
    cbv
    refine ⟨⟨jR _,gS,Rt⟩,?_⟩
    cbv
    refine ⟨(o.take k).drop 0,⟨by exact aL,by show (0+((o.take k).drop 0).length)*24<=_;omega,by show 0+((o.take k).drop 0).length<=_;omega⟩,?_⟩
    cbv
    refine ⟨x,⟨h0,hx⟩,?_⟩
    cbv
    refine ⟨[x],⟨by exact aL,by show (([]++(o.take k).drop 0:List (List Int)).length+1)*24<=_;omega,by show ([]++(o.take k).drop 0:List (List Int)).length+1<=_;omega⟩,?_⟩
    cbv
    refine ⟨⟨gS,Rt,jR _⟩,?_⟩
    cbv
    refine ⟨(o.take o.length).drop k,⟨by exact aL,by show ((([]++(o.take k).drop 0)++[x]:List (List Int)).length+((o.take o.length).drop k).length)*24<=_;omega,by show (([]++(o.take k).drop 0)++[x]:List (List Int)).length+((o.take o.length).drop k).length<=_;omega⟩,?_⟩
    cbv
    refine Sat.kill 0 ?_
    refine Sat.uH (adV 0 0) ?_
    cbv
    exact ⟨⟨i+1,(([]++(o.take k).drop 0)++[x])++(o.take o.length).drop k⟩,by have bm:=h1;exact bI,by exact ao,⟨hO,hmO⟩⟩
  ·skip
   cbv
   refine ⟨⟨jR _,gS,Rt⟩,?_⟩
   cbv
   refine ⟨(o.take k).drop 0,⟨by exact aL,by show (0+((o.take k).drop 0).length)*24<=_;omega,by show 0+((o.take k).drop 0).length<=_;omega⟩,?_⟩
   cbv
   refine ⟨x,⟨h0,hx⟩,?_⟩
   cbv
   refine ⟨[x],⟨by exact aL,by show (([]++(o.take k).drop 0:List (List Int)).length+1)*24<=_;omega,by show ([]++(o.take k).drop 0:List (List Int)).length+1<=_;omega⟩,?_⟩
   cbv
   refine ⟨⟨gS,Rt,jR _⟩,?_⟩
   cbv
   refine ⟨(o.take o.length).drop k,⟨by exact aL,by show ((([]++(o.take k).drop 0)++[x]:List (List Int)).length+((o.take o.length).drop k).length)*24<=_;omega,by show (([]++(o.take k).drop 0)++[x]:List (List Int)).length+((o.take o.length).drop k).length<=_;omega⟩,?_⟩
   cbv
   refine Sat.kill 0 ?_
   refine Sat.uH (adV 0 0) ?_
   cbv
   exact ⟨⟨i+1,(([]++(o.take k).drop 0)++[x])++(o.take o.length).drop k⟩,by have bm:=h1;exact bI,by exact ao,⟨hO,hmO⟩⟩
 ·(have h:=h.out;simp (disch:=exact aU) only [hS] at h)
  have bS:i=l.length:=by exact aU
  cbv
  exact .mk' o ⟨by exact aL⟩ ⟨by show o.length=l.length;omega,eS⟩
end Go.Proofs.Pk
