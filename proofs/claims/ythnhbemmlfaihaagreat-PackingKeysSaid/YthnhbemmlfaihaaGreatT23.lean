import Derived.Test.YthnhbemmlfaihaaGreatT19
import Derived.Test.YthnhbemmlfaihaaGreatT22
set_option linter.unusedVariables false
set_option linter.unusedSimpArgs false
set_option maxRecDepth 10000
set_option maxHeartbeats 64000000
namespace Go.Proofs.Pk
open Go Go.Vc
def EX:List Int->List Int->Bool
 | x :: r,y :: s=>if x≠y then decide (x < y) else EX r s
 | _,_=>false
def AE (a b:List Int):Bool:=if a.length≠b.length then decide (a.length < b.length) else EX a b
theorem aoj {a b:List Int} {i:Nat} {x y:Int} (hx:a[i]?=some x) (hy:b[i]?=some y):EX (a.drop i) (b.drop i)=if x≠y then decide (x < y) else EX (a.drop (i+1)) (b.drop (i+1)):=by
 obtain ⟨h1,e1⟩:=bX.1 hx
 obtain ⟨h2,e2⟩:=bX.1 hy
 rw [aad h1,aad h2,e1,e2]
 rfl
@[reducible] noncomputable def Uq:Vc.Spec where
 α:=LL
 args x:=[.sl 1 bJ (λ_=>x.a),.sl 1 bJ (λ_=>x.b)]
 pre x:=x.a.length<=1000000/\x.b.length<=1000000
 res x:=.b (λ_=>AE x.a x.b)
theorem abP:cS (PP ()) 183 Uq:=by
 refine dP (iJ 0 0) (fo Tryz.func183) (λa=>⟨(λx=>(cM x).1),(λx=>(cM x).1),trivial⟩) (λa=>trivial) ?_
 rintro ⟨a,b⟩ hx
 obtain ⟨ha,hb⟩:a.length<=1000000/\b.length<=1000000:=hx
 refine ⟨?_⟩
 cbv
 refine ⟨λh=>?_,λh=>?_⟩
 ·have jT:a.length≠b.length:=by have:=h.out;simp [aV] at this;exact aU
  have e:aS (a.length:Int) (b.length:Int)=AE a b:=by unfold AE aS;rw [if_pos jT];simp
  cbv
  exact ⟨.b e⟩
 ·have jT:a.length=b.length:=by have:=h.out;simp [aV] at this;exact aU
  have e:AE a b=EX a b:=by unfold AE;rw [if_neg (by simpa using jT)]
  cbv
  refine Sat.ca (iJ 0 0) 0 5 [] (λi:Nat=>[(5,.i .i64 λ_=>(i:Int))]) (λ_=>[]) (λi=>i<=a.length/\AE a b=EX (a.drop i) (b.drop i)) (λi=>a.length - i) 0 (by exact ao) (by exact ao) ⟨by omega,by simpa using e⟩ ?_
  rintro i ⟨hi,he⟩
  cbv
  refine ⟨λh=>?_,λh=>?_⟩
  ·(have h:=h.out;simp (disch:=exact aU) only [hS] at h)
   have aR:i < a.length:=by exact aU
   have a7:a.length - (i+1) < a.length - i:=by omega
   obtain ⟨x,hx⟩:=bz aR
   obtain ⟨y,hy⟩:=bz (l:=b) (i:=i) (by omega)
   have hl:=aoj hx hy
   have h1:=cd (i:=i) (by omega)
   have h0:=n0 i
   cbv
   refine ⟨x,⟨h0,hx⟩,?_⟩
   cbv
   refine ⟨y,⟨h0,hy⟩,?_⟩
   cbv
   refine ⟨λh=>?_,λh=>?_⟩
   ·have cZ:x≠y:=by have:=h.out;simpa [aV] using this
    have e2:aS x y=AE a b:=by rw [he,hl,if_pos cZ];rfl
    cbv
    refine ⟨x,⟨h0,hx⟩,?_⟩
    cbv
    refine ⟨y,⟨h0,hy⟩,?_⟩
    cbv
    exact ⟨.b e2⟩
   ·have cZ:x=y:=by have:=h.out;simpa [aV] using this
    have e2:AE a b=EX (a.drop (i+1)) (b.drop (i+1)):=by rw [he,hl,if_neg (by simpa using cZ)]
    cbv
    exact ⟨i+1,by have bj:=h1;exact bH,by exact ao,⟨⟨aR,e2⟩,a7⟩⟩
  ·(have h:=h.out;simp (disch:=exact aU) only [hS] at h)
   have bR:i=a.length:=by exact aU
   have e2:AE a b=false:=by rw [he,bR,List.drop_length];rfl
   cbv
   exact ⟨.bc e2.symm⟩
structure OA (l y:List (List Int)):Prop where
 len:y.length=l.length
 mem:∀z∈y,z∈l
@[reducible] noncomputable def asK:fJ where
 α:=List (List Int)
 args x:=[.sl 1 iV (λ_=>x)]
 pre x:=x.length<=1000000000000/\∀y∈x,y.length<=1000000
 β:=List (List Int)
 post x y:=OA x y
 res x y:=.sl 1 iV (λ_=>y)
structure OG where
 i:Nat
 o:List (List Int)
structure agp (l:List (List Int)) (x:OG):Prop where
 i:x.i<=l.length
 len:x.o.length=x.i
 mem:∀z∈x.o,z∈l
noncomputable def asL (n m:Nat):Ctx:=fl n m [] [(183,Uq)] [] [] [4]
theorem Ur (n m:Nat):CB PP (asL n m):=fy n m trivial ⟨abP,trivial⟩
noncomputable def aqR (n m:Nat):Ctx:=fl n m [] [(183,Uq)]
theorem acR (n m:Nat):CB PP (aqR n m):=fy n m trivial ⟨abP,trivial⟩
theorem adN:eI PP 125 asK:=by
 refine iI (Ur 0 0) (fo Tryz.func125) (λa=>⟨(λx=>(pK x).1),trivial⟩) (λa y=>(λx=>(pK x).1)) ?_
 intro (l:List (List Int)) hx
 obtain ⟨hl,Ib⟩:l.length<=1000000000000/\∀y∈l,y.length<=1000000:=hx
 refine ⟨?_⟩
 cbv
 refine Sat.ca (Ur 0 0) 1 3 [(.t 3,0)] (λx:OG=>[(3,.own 0),(4,.i .i64 λ_=>(x.i:Int))]) (λx=>[(0,.dyn 35 1 iV λ_=>x.o)])
  (λx=>agp l x) (λx=>l.length - x.i) ⟨0,[]⟩ (by exact ao) (by exact ao) ⟨cJ _,rfl,λz hz=>by simp at hz⟩ ?_
 rintro ⟨i,o⟩ ⟨hi,hlen,eN⟩
 simp only at hi hlen eN
 have h0:=n0 i
 have h1:=cd (i:=i) (by omega)
 cbv
 refine ⟨λh=>?_,λh=>?_⟩
 ·(have h:=h.out;simp (disch:=exact aU) only [hS] at h)
  have aR:i < l.length:=by exact aU
  obtain ⟨x,hx⟩:=bz aR
  have gP:=b_ hx
  have pV:=Ib x gP
  cbv
  refine Sat.ca (Ur 0 0) 1 5 [] (λk:Nat=>[(5,.i .i64 λ_=>(k:Int))]) (λ_=>[]) (λk=>k<=o.length) (λk=>o.length - k) 0 (by exact ao) (by exact ao) (by omega) ?_
  intro k hk
  have QD:(k:Int)<=(o.length:Int):=by omega
  have l1:((o.take k).drop 0).length=k:=by simp;omega
  have l2:((o.take o.length).drop k).length=o.length - k:=by simp
  have l3:([]++(o.take k).drop 0:List (List Int)).length=k:=by rw [kQ];exact l1
  have l4:(([]++(o.take k).drop 0)++[x]:List (List Int)).length=k+1:=by rw [fZ,l3];rfl
  have hO:agp l ⟨i+1,(([]++(o.take k).drop 0)++[x])++(o.take o.length).drop k⟩:=⟨aR,by show ((([]++(o.take k).drop 0)++[x])++(o.take o.length).drop k).length=i+1;rw [fZ,l4,l2];omega,λz hz=>by
   simp only [kQ,List.mem_append,BI] at hz
   rcases hz with (hz|rfl)|hz
   ·exact eN z (uC (rL hz))
   ·exact gP
   ·exact eN z (uC (rL hz))⟩
  have hmO:l.length - (i+1) < l.length - i:=by omega
  have gK:=n0 k
  have eT:=cd (i:=k) (by omega)
  cbv
  refine ⟨λh=>?_,λh=>?_⟩
  ·(have h:=h.out;simp (disch:=exact aU) only [hS] at h)
   have cW:k < o.length:=by exact aU
   obtain ⟨y,hy⟩:=bz cW
   have rA:=Ib y (eN y (b_ hy))
   have a7:k+1<=o.length/\o.length - (k+1) < o.length - k:=by omega
   cbv
   refine ⟨⟨gK,cW⟩,?_⟩
   cbv
   refine ⟨y,⟨hy,rfl⟩,?_⟩
   cbv
   refine ⟨x,⟨h0,hx⟩,?_⟩
   cbv
   refine ⟨⟨y,x⟩,⟨by exact aJ,rA,pV⟩,?_⟩
   cbv
   refine ⟨λh=>?_,λh=>?_⟩
   ·cbv
    exact ⟨k+1,by have bj:=eT;exact bH,by exact ao,⟨a7⟩⟩
   ·skip
    cbv
    refine ⟨⟨jI _,gK,QD⟩,?_⟩
    cbv
    refine ⟨(o.take k).drop 0,⟨by exact aJ,by show (0+((o.take k).drop 0).length)*24<=_;omega,by show 0+((o.take k).drop 0).length<=_;omega⟩,?_⟩
    cbv
    refine ⟨x,⟨h0,hx⟩,?_⟩
    cbv
    refine ⟨[x],⟨by exact aJ,by show (([]++(o.take k).drop 0:List (List Int)).length+1)*24<=_;omega,by show ([]++(o.take k).drop 0:List (List Int)).length+1<=_;omega⟩,?_⟩
    cbv
    refine ⟨⟨gK,QD,jI _⟩,?_⟩
    cbv
    refine ⟨(o.take o.length).drop k,⟨by exact aJ,by show ((([]++(o.take k).drop 0)++[x]:List (List Int)).length+((o.take o.length).drop k).length)*24<=_;omega,by show (([]++(o.take k).drop 0)++[x]:List (List Int)).length+((o.take o.length).drop k).length<=_;omega⟩,?_⟩
    cbv
    refine Sat.kill 0 ?_
    refine Sat.tZ (acR 0 0) ?_
    cbv
    exact ⟨⟨i+1,(([]++(o.take k).drop 0)++[x])++(o.take o.length).drop k⟩,by have bj:=h1;exact bH,by exact ao,⟨hO,hmO⟩⟩
  ·skip
   cbv
   refine ⟨⟨jI _,gK,QD⟩,?_⟩
   cbv
   refine ⟨(o.take k).drop 0,⟨by exact aJ,by show (0+((o.take k).drop 0).length)*24<=_;omega,by show 0+((o.take k).drop 0).length<=_;omega⟩,?_⟩
   cbv
   refine ⟨x,⟨h0,hx⟩,?_⟩
   cbv
   refine ⟨[x],⟨by exact aJ,by show (([]++(o.take k).drop 0:List (List Int)).length+1)*24<=_;omega,by show ([]++(o.take k).drop 0:List (List Int)).length+1<=_;omega⟩,?_⟩
   cbv
   refine ⟨⟨gK,QD,jI _⟩,?_⟩
   cbv
   refine ⟨(o.take o.length).drop k,⟨by exact aJ,by show ((([]++(o.take k).drop 0)++[x]:List (List Int)).length+((o.take o.length).drop k).length)*24<=_;omega,by show (([]++(o.take k).drop 0)++[x]:List (List Int)).length+((o.take o.length).drop k).length<=_;omega⟩,?_⟩
   cbv
   refine Sat.kill 0 ?_
   refine Sat.tZ (acR 0 0) ?_
   cbv
   exact ⟨⟨i+1,(([]++(o.take k).drop 0)++[x])++(o.take o.length).drop k⟩,by have bj:=h1;exact bH,by exact ao,⟨hO,hmO⟩⟩
 ·(have h:=h.out;simp (disch:=exact aU) only [hS] at h)
  have bR:i=l.length:=by exact aU
  cbv
  exact .mk' o ⟨by exact aJ⟩ ⟨by show o.length=l.length;omega,eN⟩
structure Gv (v:Nat) (L:List (List Int)):Prop where
 nd:L.Nodup
 all:∀l∈L,l.length<=4/\∀x∈l,0<=x/\x < (v:Int)
structure Hv (v:Nat) (L:List (List Int)):Prop where
 nd:L.Nodup
 all:∀l∈L,l.length<=4/\(l=[(v:Int)]\/∀x∈l,0<=x/\x < (v:Int))
theorem Gv.dH {v:Nat} {L:List (List Int)} (h:Gv v L) (hv:v<=600):L.length<=133090713856 :=
 aaP h.nd λl hl=>⟨(h.all l hl).1,λx hx=>by have:=(h.all l hl).2 x hx;omega⟩
theorem Hv.dH {v:Nat} {L:List (List Int)} (h:Hv v L) (hv:v<=600):L.length<=133090713856 :=
 aaP h.nd λl hl=>⟨(h.all l hl).1,λx hx=>by
  rcases (h.all l hl).2 with e|e
  ·subst e;simp at hx;omega
  ·have:=e x hx;omega⟩
theorem Gv.add {v:Nat} {L r:List (List Int)} (h:Gv v L) {u:List Int} (hu:u.length<=4/\∀x∈u,0<=x/\x < (v:Int)) (hr:AD L u r):Gv v r:=⟨hr.nodup h.nd,hr.all h.all hu⟩
theorem Hv.add {v:Nat} {L r:List (List Int)} (h:Hv v L) {u:List Int} (hu:u.length<=4/\(u=[(v:Int)]\/∀x∈u,0<=x/\x < (v:Int))) (hr:AD L u r):Hv v r:=⟨hr.nodup h.nd,hr.all h.all hu⟩
def KN (R:List (List (List Int))):Prop:=∀(v:Nat) (L:List (List Int)),R[v]?=some L->L.length<=133090713856/\∀l∈L,l.length<=4/\(l=[(v:Int)]\/∀x∈l,0<=x/\x < (v:Int))
theorem KN.add {R:List (List (List Int))} (h:KN R) {L:List (List Int)} (hl:L.length<=133090713856) (ha:∀l∈L,l.length<=4/\(l=[(R.length:Int)]\/∀x∈l,0<=x/\x < (R.length:Int))):KN (R++[L]):=by
 intro v M hM
 rw [DP] at hM
 split at hM
 ·exact h v M hM
 ·have hi:v - R.length=0:=by
   have:=(bX.1 hM).1
   simp at this;omega
  rw [hi] at hM
  simp at hM
  subst hM
  have:v=R.length:=by omega
  subst this
  exact ⟨hl,ha⟩
structure EG where
 v:Nat
 R:List (List (List Int))
structure agq (N:Nat) (x:EG):Prop where
 lo:2<=x.v
 hi:x.v<=N
 len:x.R.length=x.v
 ok:KN x.R
structure aeX (N:Nat) (y:List (List (List Int))):Prop where
 len:y.length=N
 ok:KN y
structure NK where
 n:Net
 k:Int
@[reducible] noncomputable def apm:fJ where
 α:=NK
 args x:=[.agg (r7 x.n),.i .i64 (λ_=>x.k)]
 pre x:=eQ x.n/\x.k=4
 β:=List (List (List Int))
 post x y:=aeX (2+x.n.ins.length+x.n.gG.length) y
 res x y:=.sl 1 GZ (λ_=>y)
noncomputable def cEv (n m:Nat):Ctx:=fl n m [(51,Tryz.f51),(54,Tryz.f54),(123,Tryz.f123),(124,Tryz.f124),(125,Tryz.f125)] [(122,Uo)] [54,123,124,125] [] [] [113] [35,36]
theorem Ha (n m:Nat):CB PP (cEv n m):=fy n m ⟨fo Tryz.func51,fo Tryz.func54,fo Tryz.func123,fo Tryz.func124,fo Tryz.func125,trivial⟩ ⟨abO,trivial⟩
theorem ane:eI PP 52 apm:=by
 refine iI (Ha 0 0) (fo Tryz.func52) (λa=>⟨tv a.n,trivial,trivial⟩) (λa y=>(λx=>(aaI x).1)) ?_
 rintro ⟨⟨ins,gs,outs,dr⟩,kk⟩ hx
 obtain ⟨hn,mW⟩:eQ ⟨ins,gs,outs,dr⟩/\kk=4:=hx
 have v5:2+ins.length+gs.length<=600:=hn.pf
 obtain ⟨N,hN⟩:∃N,N=2+ins.length+gs.length:=⟨_,rfl⟩
 refine ⟨?_⟩
 cbv
 refine ⟨[[[]],[[]]],⟨by exact aJ,rfl⟩,?_⟩
 cbv
 refine Sat.ca (Ha 0 0) 6 5 [(.t 5,5)] (λx:EG=>[(5,.own 5),(6,.i .i64 λ_=>(x.v:Int))]) (λx=>[(5,.dyn 36 1 GZ λ_=>x.R)])
  (λx=>agq N x) (λx=>N - x.v) ⟨2,[[[]],[[]]]⟩ (by exact bH) (by exact ao) ⟨cP _,by show 2<=N;omega,rfl,λv L h=>by
   match v with
   | 0=>simp at h;subst h;exact ⟨by decide,λl hl=>by simp at hl;subst hl;exact ⟨by decide,.inr (by simp)⟩⟩
   | 1=>simp at h;subst h;exact ⟨by decide,λl hl=>by simp at hl;subst hl;exact ⟨by decide,.inr (by simp)⟩⟩
   | n+2=>simp at h⟩ ?_
 rintro ⟨v,R⟩ ⟨eW,gy,hlen,cq⟩
 simp only at eW gy hlen cq
 have Kd:v<=600:=by omega
 have h_:=n0 v
 have pX:=cd (i:=v) (by omega)
 have fB:IntKind.i64.wrap (IntKind.i64.wrap (2+(ins.length:Int))+gs.length)=N:=by rw [cz (n:=2+(ins.length:Int)) (by omega) (by omega),cz (by omega) (by omega)];omega
 cbv
 refine ⟨λh=>?_,λh=>?_⟩
 ·have rD:v < N:=by have:=h.out;simp only [aS,decide_eq_true_eq] at this;rw [fB] at this;exact aU
  have Cs:N - (v+1) < N - v:=by omega
  have sI:0<=(v:Int)/\(v:Int) < 2+(ins.length:Int)+gs.length:=by omega
  have agr:∀l,Hv v l->∀y,OA l y->agq N ⟨v+1,R++[y]⟩:=λl hl y hy=>⟨by show 2<=v+1;omega,rD,by show (R++[y]).length=v+1;simp [hlen],by
   refine cq.add (by rw [hy.len];exact hl.dH Kd) λz hz=>?_
   rw [hlen]
   exact hl.all z (hy.mem z hz)⟩
  have XO:∀l,Hv v l->l.length<=1000000000000/\∀y∈l,y.length<=1000000:=λl hl=>⟨by have:=hl.dH Kd;omega,λy hy=>by have:=(hl.all y hy).1;omega⟩
  have H0:Hv v [[(v:Int)]]:=⟨by simp,λl hl=>by simp at hl;subst hl;exact ⟨by simp,.inl rfl⟩⟩
  cbv
  refine ⟨⟨⟨ins,gs,outs,dr⟩,(v:Int)⟩,⟨by exact aJ,hn,sI⟩,?_⟩
  cbv
  refine ⟨λh=>?_,λh=>?_⟩
  ·cbv
   refine bU.rel F9 ⟨⟨ins,gs,outs,dr⟩,(v:Int)⟩ (by exact aJ) ⟨hn,sI⟩ λops j5=>?_
   have j5:Cr ⟨ins,gs,outs,dr⟩ v ops:=j5.out
   have gd:=j5.len
   cbv
   refine Sat.ca (Ha 0 0) 6 8 [] (λx:Nat × List (List Int)=>[(8,.sl 1 iV λ_=>x.2),(9,.sl 1 bJ λ_=>ops),(10,.i .i64 λ_=>(x.1:Int))]) (λ_=>[])
    (λx=>x.1<=ops.length/\Gv v x.2) (λx=>ops.length - x.1) (0,[[]]) (by exact ao) (by exact ao) ⟨cJ _,by simp,λl hl=>by simp at hl;subst hl;exact ⟨by decide,by simp⟩⟩ ?_
   rintro ⟨i,mg⟩ ⟨hi,QE⟩
   simp only at hi QE
   have ir:=n0 i
   have mC:=cd (i:=i) (by omega)
   have azD:=QE.dH Kd
   cbv
   refine ⟨λh=>?_,λh=>?_⟩
   ·(have h:=h.out;simp (disch:=exact aU) only [hS] at h)
    have bp:i < ops.length:=by exact aU
    have EW:ops.length - (i+1) < ops.length - i:=by omega
    obtain ⟨op,fa⟩:=bz bp
    have V0:=j5.mem op (b_ fa)
    have V5:op.toNat < R.length:=by exact aU
    obtain ⟨L,hL⟩:=bz V5
    have hLk:=cq _ L hL
    cbv
    refine Sat.ca (Ha 0 0) 6 11 [] (λx:Nat × List (List Int)=>[(11,.sl 1 iV λ_=>x.2),(12,.i .i64 λ_=>(x.1:Int))]) (λ_=>[])
     (λx=>x.1<=mg.length/\Gv v x.2) (λx=>mg.length - x.1) (0,[]) (by exact ao) (by exact ao) ⟨cJ _,by simp,λl hl=>by simp at hl⟩ ?_
    rintro ⟨a,nx⟩ ⟨ha,s8⟩
    simp only at ha s8
    have Fo:=n0 a
    have ha1:=cd (i:=a) (by omega)
    cbv
    refine ⟨λh=>?_,λh=>?_⟩
    ·(have h:=h.out;simp (disch:=exact aU) only [hS] at h)
     have wc:a < mg.length:=by exact aU
     have asM:mg.length - (a+1) < mg.length - a:=by omega
     obtain ⟨ma,hma⟩:=bz wc
     have ags:=QE.all ma (b_ hma)
     cbv
     refine Sat.ca (Ha 0 0) 6 13 [] (λx:Nat × List (List Int)=>[(11,.sl 1 iV λ_=>x.2),(13,.i .i64 λ_=>(x.1:Int))]) (λ_=>[])
      (λx=>x.1<=L.length/\Gv v x.2) (λx=>L.length - x.1) (0,nx) (by exact ao) (by exact ao) ⟨cJ _,s8⟩ ?_
     rintro ⟨b,nx⟩ ⟨hb,s8⟩
     simp only at hb s8
     have eb:=n0 b
     have jC:=cd (i:=b) (by omega)
     have azE:=s8.dH Kd
     cbv
     refine ⟨op,⟨ir,fa⟩,?_⟩
     cbv
     refine ⟨⟨V0.1,V5⟩,?_⟩
     cbv
     refine ⟨L,⟨hL,rfl⟩,?_⟩
     cbv
     refine ⟨λh=>?_,λh=>?_⟩
     ·(have h:=h.out;simp (disch:=exact aU) only [hS] at h)
      have dW:b < L.length:=by exact aU
      have agt:L.length - (b+1) < L.length - b:=by omega
      obtain ⟨lb,LM⟩:=bz dW
      have agu:=hLk.2 lb (b_ LM)
      have azF:=agu.1
      have azG:=ags.1
      have asN:∀x∈lb,0<=x/\x < (v:Int):=λx hx=>by
       rcases agu.2 with e|e
       ·subst e;simp at hx;exact aU
       ·have:=e x hx;exact aU
      cbv
      refine ⟨ma,⟨Fo,hma⟩,?_⟩
      cbv
      refine ⟨op,⟨ir,fa⟩,?_⟩
      cbv
      refine ⟨⟨V0.1,V5⟩,?_⟩
      cbv
      refine ⟨L,⟨hL,rfl⟩,?_⟩
      cbv
      refine ⟨lb,⟨eb,LM⟩,?_⟩
      cbv
      refine bU.rel Tk ⟨ma,lb⟩ (by exact aJ) ⟨by show ma.length<=_;omega,by show lb.length<=_;omega⟩ λu hu=>?_
      have hu:NL ma lb u:=hu.out
      cbv
      refine ⟨λh=>?_,λh=>?_⟩
      ·have hu4:u.length<=4:=by have:=h.out;simp only [cR,decide_eq_true_eq] at this;rw [mW] at this;exact aU
       have huG:u.length<=4/\∀x∈u,0<=x/\x < (v:Int):=⟨hu4,λx hx=>(hu.mem x hx).elim (ags.2 x) (asN x)⟩
       cbv
       refine bU.rel adK ⟨nx,u⟩ (by exact aJ) ⟨by show nx.length<=_;omega,λy hy=>by have:=(s8.all y hy).1;show y.length<=1000;omega,by show u.length<=_;omega⟩ λr hr=>?_
       have hr:AD nx u r:=hr.out
       have hG:=s8.add huG hr
       cbv
       exact ⟨(b+1,r),by have bj:=jC;exact bH,by exact ao,⟨⟨dW,hG⟩,agt⟩⟩
      ·cbv
       exact ⟨(b+1,nx),by have bj:=jC;exact bH,by exact ao,⟨⟨dW,s8⟩,agt⟩⟩
     ·cbv
      exact ⟨(a+1,nx),by have bj:=ha1;exact bH,by exact ao,⟨⟨wc,s8⟩,asM⟩⟩
    ·cbv
     exact ⟨(i+1,nx),by have bj:=mC;exact bH,by exact ao,⟨⟨bp,s8⟩,EW⟩⟩
   ·cbv
    refine Sat.ca (Ha 0 0) 6 7 [] (λx:Nat × List (List Int)=>[(7,.sl 1 iV λ_=>x.2),(8,.sl 1 iV λ_=>mg),(15,.i .i64 λ_=>(x.1:Int))]) (λ_=>[])
     (λx=>x.1<=mg.length/\Hv v x.2) (λx=>mg.length - x.1) (0,[[(v:Int)]]) (by exact ao) (by exact ao) ⟨cJ _,H0⟩ ?_
    rintro ⟨j,l⟩ ⟨hj,hl⟩
    simp only at hj hl
    have iG:=n0 j
    have u9:=cd (i:=j) (by omega)
    have lW:=hl.dH Kd
    cbv
    refine ⟨λh=>?_,λh=>?_⟩
    ·(have h:=h.out;simp (disch:=exact aU) only [hS] at h)
     have eA:j < mg.length:=by exact aU
     have V4:mg.length - (j+1) < mg.length - j:=by omega
     obtain ⟨mj,hmj⟩:=bz eA
     have agv:=QE.all mj (b_ hmj)
     have asO:=agv.1
     cbv
     refine ⟨mj,⟨iG,hmj⟩,?_⟩
     cbv
     refine bU.rel adK ⟨l,mj⟩ (by exact aJ) ⟨by show l.length<=_;omega,λy hy=>by have:=(hl.all y hy).1;show y.length<=1000;omega,by show mj.length<=_;omega⟩ λr hr=>?_
     have hr:AD l mj r:=hr.out
     have hG:=hl.add ⟨asO,.inr agv.2⟩ hr
     cbv
     exact ⟨(j+1,r),by have bj:=u9;exact bH,by exact ao,⟨⟨eA,hG⟩,V4⟩⟩
    ·cbv
     refine bU.rel adN l (by exact aJ) ⟨(XO l hl).1,(XO l hl).2⟩ λy hy=>?_
     have hy:OA l y:=hy.out
     have hT:=agr l hl y hy
     cbv
     refine ⟨[y],⟨by exact aJ,rfl⟩,?_⟩
     cbv
     refine ⟨[y],⟨by exact aJ,by show (R.length+1)*24<=_;omega,by show R.length+1<=_;omega⟩,?_⟩
     cbv
     exact ⟨⟨v+1,R++[y]⟩,by have bj:=pX;exact bH,by exact ao,⟨hT,Cs⟩⟩
  ·cbv
   refine bU.rel adN [[(v:Int)]] (by exact aJ) ⟨XO _ H0⟩ λy hy=>?_
   have hy:OA [[(v:Int)]] y:=hy.out
   have hT:=agr _ H0 y hy
   cbv
   refine ⟨[y],⟨by exact aJ,rfl⟩,?_⟩
   cbv
   refine ⟨[y],⟨by exact aJ,by show (R.length+1)*24<=_;omega,by show R.length+1<=_;omega⟩,?_⟩
   cbv
   exact ⟨⟨v+1,R++[y]⟩,by have bj:=pX;exact bH,by exact ao,⟨hT,Cs⟩⟩
 ·have rD:v=N:=by have:=h.out;simp only [aS,decide_eq_false_iff_not] at this;rw [fB] at this;exact aU
  have O2:R.length=2+ins.length+gs.length:=by omega
  cbv
  exact .mk' R ⟨by exact aJ⟩ ⟨O2,cq⟩
noncomputable def nD (n:Net) (v:Int):Bool:=decide (2+(n.ins.length:Int)<=v)&&match n.gG[(v - 2 - n.ins.length).toNat]? with|some g=>g.op == 7|none=>false
@[reducible] noncomputable def Ie:Vc.Spec where
 α:=NV
 args x:=[.agg (r7 x.n),.i .i64 (λ_=>x.v)]
 pre x:=eQ x.n/\0<=x.v/\x.v < fM x.n
 res x:=.b (λ_=>nD x.n x.v)
theorem Kf:cS (PP ()) 107 Ie:=by
 refine dP (iJ 0 0) (fo Tryz.func107) (λa=>⟨tv a.n,trivial,trivial⟩) (λa=>trivial) ?_
 rintro ⟨⟨ins,gs,outs,dr⟩,v⟩ hx
 obtain ⟨hn,h0,h1⟩:eQ ⟨ins,gs,outs,dr⟩/\0<=v/\v < 2+(ins.length:Int)+gs.length:=hx
 have v5:2+ins.length+gs.length<=600:=hn.pf
 have hw:IntKind.i64.wrap (2+(ins.length:Int))=2+(ins.length:Int):=by rw [cz (by omega) (by omega)]
 refine ⟨?_⟩
 cbv
 refine ⟨λh=>?_,λh=>?_⟩
 ·have hv:2+(ins.length:Int)<=v:=by have h':cR (IntKind.i64.wrap (2+(ins.length:Int))) v=true:=h.out;rw [hw] at h';simp only [cR,decide_eq_true_eq] at h';exact h'
  obtain ⟨g,hg⟩:=bz (l:=gs) (i:=(v - 2 - ins.length).toNat) (by exact aU)
  have gx:(0<=IntKind.i64.wrap (IntKind.i64.wrap (v - 2) - (ins.length:Int)))/\gs[(IntKind.i64.wrap (IntKind.i64.wrap (v - 2) - (ins.length:Int))).toNat]?=some g:=by
   rw [cz (n:=v - 2) (by exact aU) (by exact aU),cz (by exact aU) (by exact aU)];exact ⟨by exact aU,hg⟩
  have e:nD ⟨ins,gs,outs,dr⟩ v=aV g.op 7:=by
   unfold nD aV
   simp only
   rw [hg]
   simp [hv]
  cbv
  refine ⟨g,⟨gx⟩,?_⟩
  cbv
  exact ⟨.b e.symm⟩
 ·have hv:¬2+(ins.length:Int)<=v:=by have h':cR (IntKind.i64.wrap (2+(ins.length:Int))) v=false:=h.out;rw [hw] at h';simp only [cR,decide_eq_false_iff_not] at h';exact h'
  have e:nD ⟨ins,gs,outs,dr⟩ v=false:=by unfold nD;simp [hv]
  cbv
  exact ⟨.bc e.symm⟩
@[reducible] noncomputable def aqS:fJ where
 α:=LL
 args x:=[.sl 1 bJ (λ_=>x.a),.sl 1 bJ (λ_=>x.b)]
 pre x:=x.b.length<=1000000/\∀z∈x.b,0<=z/\z < x.a.length
 β:=Int
 post x y:=True
 res x y:=.i .i64 (λ_=>y)
theorem TQ:eI PP 106 aqS:=by
 refine iI (iJ 0 0) (fo Tryz.func106) (λa=>⟨(λx=>(cM x).1),(λx=>(cM x).1),trivial⟩) (λa y=>trivial) ?_
 rintro ⟨a,b⟩ hx
 obtain ⟨hb,hm⟩:b.length<=1000000/\∀z∈b,0<=z/\z < a.length:=hx
 refine ⟨?_⟩
 cbv
 refine Sat.ca (iJ 0 0) 0 5 [] (λx:Nat × Int=>[(5,.i .i64 λ_=>x.2),(6,.i .i64 λ_=>(x.1:Int))]) (λ_=>[]) (λx=>x.1<=b.length) (λx=>b.length - x.1) (0,0) (by exact ao) (by exact ao) (by simp) ?_
 rintro ⟨i,d⟩ hi
 have hi:i<=b.length:=hi
 have h0:=n0 i
 have h1:=cd (i:=i) (by omega)
 cbv
 refine ⟨λh=>?_,λh=>?_⟩
 ·(have h:=h.out;simp (disch:=exact aU) only [hS] at h)
  have aR:i < b.length:=by exact aU
  have a7:i+1<=b.length/\b.length - (i+1) < b.length - i:=by omega
  obtain ⟨x,hx⟩:=bz aR
  have hxa:=hm x (b_ hx)
  obtain ⟨u,hu⟩:=bz (l:=a) (i:=x.toNat) (by exact aU)
  cbv
  refine ⟨x,⟨h0,hx⟩,?_⟩
  cbv
  refine ⟨u,⟨hxa.1,hu⟩,?_⟩
  cbv
  refine ⟨(i+1,max d u),by have bj:=h1;exact bH,by exact ao,⟨a7⟩⟩
 ·cbv
  exact .mk' d ⟨by exact aJ⟩ trivial
structure O3 where
 n:Net
 root:List Int
 leaves:List (List Int)
 v:Int
structure apn (x:O3) (y:Int):Prop where
 lo:x.v < 2+x.n.ins.length->y=x.v
 hi:x.v∈x.root->0<=y/\y < 2+x.n.ins.length+x.root.length
def tK (x:O3):Int:=if x.v < 2+x.n.ins.length then x.v else match x.root.findIdx? (λz=>decide (z=x.v)) with
 | some i=>2+x.n.ins.length+i
 | none=>-1
theorem aok (x:O3) (h:0<=x.v):apn x (tK x):=by
 refine ⟨λaR=>by unfold tK;rw [if_pos aR],λhm=>?_⟩
 unfold tK
 split
 ·omega
 ·split
  ·rename_i i hi
   have:=(DM.1 hi).1
   omega
  ·rename_i hi
   rw [Jq] at hi
   have:=hi _ hm
   simp at this
@[reducible] noncomputable def V6:Vc.Spec where
 α:=O3
 args x:=[.agg (r7 x.n),.agg [.sl 1 bJ (λ_=>x.root),.sl 1 iV (λ_=>x.leaves)],.i .i64 (λ_=>x.v)]
 pre x:=x.n.ins.length<=1000/\x.root.length<=1000000/\0<=x.v
 res x:=.i .i64 (λ_=>tK x)
theorem adO:cS (PP ()) 118 V6:=by
 refine dP (iJ 0 0) (fo Tryz.func118) (λa=>⟨tv a.n,⟨(λx=>(cM x).1),(λx=>(pK x).1),trivial⟩,trivial,trivial⟩) (λa=>trivial) ?_
 rintro ⟨⟨ins,gs,outs,dr⟩,root,leaves,v⟩ hx
 obtain ⟨hi,hr,h_⟩:ins.length<=1000/\root.length<=1000000/\0<=v:=hx
 have hw:IntKind.i64.wrap (2+(ins.length:Int))=2+(ins.length:Int):=by rw [cz (by omega) (by omega)]
 refine ⟨?_⟩
 cbv
 refine ⟨λh=>?_,λh=>?_⟩
 ·have hv:v < 2+(ins.length:Int):=by have h':aS v (IntKind.i64.wrap (2+(ins.length:Int)))=true:=h.out;rw [hw] at h';simp only [aS,decide_eq_true_eq] at h';exact h'
  have e:tK ⟨⟨ins,gs,outs,dr⟩,root,leaves,v⟩=v:=by unfold tK;rw [if_pos hv]
  cbv
  exact ⟨.i e.symm⟩
 ·have hv:¬v < 2+(ins.length:Int):=by have h':aS v (IntKind.i64.wrap (2+(ins.length:Int)))=false:=h.out;rw [hw] at h';simp only [aS,decide_eq_false_iff_not] at h';exact h'
  cbv
  refine Sat.ca (iJ 0 0) 2 7 [] (λi:Nat=>[(7,.i .i64 λ_=>(i:Int))]) (λ_=>[]) (λi=>i<=root.length/\∀j,j < i->root[j]?≠some v) (λi=>root.length - i) 0 (by exact ao) (by exact ao) ⟨by simp,λj hj=>by omega⟩ ?_
  rintro i ⟨bp,et⟩
  have h0:=n0 i
  have h1:=cd (i:=i) (by omega)
  cbv
  refine ⟨λh=>?_,λh=>?_⟩
  ·(have h:=h.out;simp (disch:=exact aU) only [hS] at h)
   have aR:i < root.length:=by exact aU
   have a7:root.length - (i+1) < root.length - i:=by omega
   obtain ⟨x,hx⟩:=bz aR
   have s7:IntKind.i64.wrap (IntKind.i64.wrap (2+(ins.length:Int))+(i:Int))=2+(ins.length:Int)+i:=by rw [hw,cz (by exact aU) (by exact aU)]
   cbv
   refine ⟨x,⟨h0,hx⟩,?_⟩
   cbv
   refine ⟨λh=>?_,λh=>?_⟩
   ·have oC:x=v:=bE
    have e:IntKind.i64.wrap (IntKind.i64.wrap (2+(ins.length:Int))+(i:Int))=tK ⟨⟨ins,gs,outs,dr⟩,root,leaves,v⟩:=by
     rw [s7]
     unfold tK
     rw [if_neg hv]
     have:root.findIdx? (λz=>decide (z=v))=some i:=by
      rw [DM]
      refine ⟨aR,by rw [eh aR] at hx;simp at hx;simp [hx,oC],λj hj=>?_⟩
      have:=et j hj
      rw [eh (by omega)] at this
      simpa using this
     simp only
     rw [this]
    cbv
    exact ⟨.i e⟩
   ·have cZ:x≠v:=bE
    cbv
    exact ⟨i+1,by have bj:=h1;exact bH,by exact ao,⟨⟨aR,λj hj=>by
     by_cases nC:j=i
     ·subst nC;rw [hx];simpa using cZ
     ·exact et j (by omega)⟩,a7⟩⟩
  ·have bR:i=root.length:=by have h':aS (i:Int) (root.length:Int)=false:=h.out;simp only [aS,decide_eq_false_iff_not] at h';exact aU
   have e:tK ⟨⟨ins,gs,outs,dr⟩,root,leaves,v⟩=-1:=by
    unfold tK
    rw [if_neg hv]
    have:root.findIdx? (λz=>decide (z=v))=none:=by
     rw [Jq]
     intro x hx
     obtain ⟨j,hj⟩:=na hx
     have eA:=(bX.1 hj).1
     have:=et j (by have:j < root.length:=eA;omega)
     rw [hj] at this
     simpa using this
    simp only
    rw [this]
   cbv
   exact ⟨.ic e.symm⟩
structure kT (n:Net) (v:Nat) (l:List Int):Prop where
 len:l.length<=4
 mem:∀x∈l,0<=x/\x < (v:Int)
 read:nD n v=true->l.length=3
structure agw where
 v:Nat
 L:List Int
 B:List (List Int)
structure agx (n:Net) (N:Nat) (x:agw):Prop where
 lo:2+n.ins.length<=x.v
 hi:x.v<=N
 l:x.L.length=x.v
 b:x.B.length=x.v
 ok:∀(u:Nat) (l:List Int),2+n.ins.length<=u->x.B[u]?=some l->kT n u l
structure Lbd where
 L:List Int
 B:List (List Int)
 e:Int
structure UU (n:Net) (y:Lbd):Prop where
 ok:y.e=0->y.B.length=2+n.ins.length+n.gG.length/\∀(u:Nat) (l:List Int),2+n.ins.length<=u->y.B[u]?=some l->kT n u l
@[reducible] noncomputable def asP:fJ where
 α:=Net
 args x:=[.agg (r7 x)]
 pre x:=eQ x
 β:=Lbd
 post x y:=UU x y
 res x y:=.agg [.sl 1 bJ (λ_=>y.L),.sl 1 iV (λ_=>y.B),.i .i64 (λ_=>y.e)]
noncomputable def cLb (n m:Nat):Ctx:=fl n m [(52,Tryz.f52),(54,Tryz.f54),(106,Tryz.f106)] [(51,Ao),(107,Ie)] [52,54,106]
theorem UW (n m:Nat):CB PP (cLb n m):=fy n m ⟨fo Tryz.func52,fo Tryz.func54,fo Tryz.func106,trivial⟩ ⟨BR,Kf,trivial⟩
theorem apo:eI PP 35 asP:=by
 refine iI (UW 0 0) (fo Tryz.func35) (λa=>⟨tv a,trivial⟩) (λa y=>⟨(λx=>(cM x).1),(λx=>(pK x).1),trivial,trivial⟩) ?_
 rintro ⟨ins,gs,outs,dr⟩ hx
 have hn:eQ ⟨ins,gs,outs,dr⟩:=hx
 have v5:2+ins.length+gs.length<=600:=hn.pf
 have hw:IntKind.i64.wrap (2+(ins.length:Int))=((2+ins.length:Nat):Int):=by rw [cz (by omega) (by omega)];omega
 have m5:fM ⟨ins,gs,outs,dr⟩=((2+ins.length+gs.length:Nat):Int):=by unfold fM;simp only;omega
 obtain ⟨N,hN⟩:∃N,N=2+ins.length+gs.length:=⟨_,rfl⟩
 rw [<-hN] at m5
 have eE:∀c:Int,0<=c->c<=100->(0<=IntKind.i64.wrap (2+(ins.length:Int))/\c*IntKind.i64.wrap (2+(ins.length:Int))<=281474976710656/\IntKind.i64.wrap (2+(ins.length:Int))<=9223372036854775807):=λc h0 h1=>by
  rw [hw]
  refine ⟨by omega,?_,by omega⟩
  have:c*((2+ins.length:Nat):Int)<=100*((2+ins.length:Nat):Int):=Int.mul_le_mul_of_nonneg_right h1 (by omega)
  omega
 have V7:=eE 8 (by decide) (by decide)
 have UX:=eE 24 (by decide) (by decide)
 refine ⟨?_⟩
 cbv
 refine ⟨⟨V7.1,jI _,V7.2.1,V7.2.2⟩,?_⟩
 cbv
 refine ⟨⟨UX.1,jI _,UX.2.1,UX.2.2⟩,?_⟩
 cbv
 refine bU.rel ane ⟨⟨ins,gs,outs,dr⟩,4⟩ (by exact aJ) ⟨hn,rfl⟩ λR hR=>?_
 have hR:aeX (2+ins.length+gs.length) R:=hR.out
 have A8:R.length=N:=by rw [hN];exact hR.len
 have xU:=hR.ok
 have zo:(List.replicate (IntKind.i64.wrap (2+(ins.length:Int))).toNat (0:Int)).length=2+ins.length:=by rw [rK,hw];rfl
 have rE:(List.replicate (IntKind.i64.wrap (2+(ins.length:Int))).toNat ([]:List Int)).length=2+ins.length:=by rw [rK,hw];rfl
 cbv
 refine Sat.ca (UW 0 0) 5 5 [(.c 4 0,2),(.c 4 1,3)] (λx:agw=>[(5,.i .i64 λ_=>(x.v:Int))]) (λx=>[(2,.dyn 3 1 bJ λ_=>x.L),(3,.dyn 35 1 iV λ_=>x.B),(4,.fix 97 [.own 2,.own 3,.ic .i64 0])])
  (λx=>agx ⟨ins,gs,outs,dr⟩ N x) (λx=>N - x.v) ⟨2+ins.length,List.replicate (IntKind.i64.wrap (2+(ins.length:Int))).toNat (0:Int),List.replicate (IntKind.i64.wrap (2+(ins.length:Int))).toNat ([]:List Int)⟩ (by have bj:=hw;exact bH) (by exact ao)
  ⟨cP _,by show 2+ins.length<=N;omega,zo,rE,λu l hu hl=>by have:=(bX.1 hl).1;rw [rE] at this;have hu:2+ins.length<=u:=hu;omega⟩ ?_
 rintro ⟨v,L,B⟩ ⟨eW,gy,hL,hB,cq⟩
 have eW:2+ins.length<=v:=eW
 have gy:v<=N:=gy
 have hL:L.length=v:=hL
 have hB:B.length=v:=hB
 have cq:∀(u:Nat) (l:List Int),2+ins.length<=u->B[u]?=some l->kT ⟨ins,gs,outs,dr⟩ u l:=cq
 have h_:=n0 v
 have pX:=cd (i:=v) (by omega)
 cbv
 refine ⟨⟨ins,gs,outs,dr⟩,⟨by exact aJ,by show 2+ins.length+gs.length<=_;omega⟩,?_⟩
 cbv
 refine ⟨λh=>?_,λh=>?_⟩
 ·have rD:v < N:=by have h':aS (v:Int) (fM ⟨ins,gs,outs,dr⟩)=true:=h.out;rw [m5] at h';simp only [aS,decide_eq_true_eq] at h';exact aU
  have Cs:N - (v+1) < N - v:=by omega
  have sI:0<=(v:Int)/\(v:Int) < fM ⟨ins,gs,outs,dr⟩:=⟨h_,by rw [m5];exact aU⟩
  obtain ⟨C,hC⟩:=bz (l:=R) (i:=v) (by rw [A8];exact rD)
  have hCk:=xU v C hC
  have agy:∀(lb:Int) (bs:List Int),kT ⟨ins,gs,outs,dr⟩ v bs->agx ⟨ins,gs,outs,dr⟩ N ⟨v+1,L++[lb],B++[bs]⟩:=λlb bs eM=>⟨by show 2+ins.length<=v+1;omega,rD,by show (L++[lb]).length=v+1;simp [hL],by show (B++[bs]).length=v+1;simp [hB],λu l hu hl=>by
   have hl:(B++[bs])[u]?=some l:=hl
   rw [DP] at hl
   split at hl
   ·exact cq u l hu hl
   ·have hi:u - B.length=0:=by
     have:=(bX.1 hl).1
     simp at this;omega
    rw [hi] at hl
    simp at hl
    subst hl
    have:u=v:=by omega
    rw [this];exact eM⟩
  cbv
  refine ⟨C,⟨h_,hC⟩,?_⟩
  cbv
  refine ⟨λh=>?_,λh=>?_⟩
  ·cbv
   exact .mk' ⟨[],[],2⟩ ⟨by exact aJ⟩ ⟨λh=>by simp at h⟩
  ·cbv
   refine bU.rel F9 ⟨⟨ins,gs,outs,dr⟩,(v:Int)⟩ (by exact aJ) ⟨hn,sI⟩ λops j5=>?_
   have j5:Cr ⟨ins,gs,outs,dr⟩ v ops:=j5.out
   have gd:=j5.len
   cbv
   refine bU.of TQ ⟨L,ops⟩ (.inl ⟨by exact aJ,.inl λy=>rfl⟩) ⟨by show ops.length<=_;omega,λz hz=>by have:=j5.mem z hz;show 0<=z/\z < L.length;rw [hL];exact this⟩ λd0 _=>?_
   obtain ⟨l0,wu⟩:∃l0,l0=IntKind.i64.wrap (1+d0):=⟨_,rfl⟩
   cbv
   refine ⟨⟨⟨ins,gs,outs,dr⟩,(v:Int)⟩,⟨by exact aJ,hn,sI⟩,?_⟩
   cbv
   refine ⟨λh=>?_,λh=>?_⟩
   ·have mD:nD ⟨ins,gs,outs,dr⟩ v=false:=by have h':(!nD ⟨ins,gs,outs,dr⟩ v)=true:=h.out;simpa using h'
    have H0:kT ⟨ins,gs,outs,dr⟩ v ops:=⟨by omega,j5.mem,λh=>by rw [mD] at h;cases h⟩
    have HN:∀l:List Int,l.length<=4->(∀x∈l,0<=x/\x < (v:Int))->kT ⟨ins,gs,outs,dr⟩ v l:=λl h1 h2=>⟨h1,h2,λh=>by rw [mD] at h;cases h⟩
    cbv
    refine Sat.ca (UW 0 0) 5 6 [] (λx:Nat × List Int × Int=>[(6,.sl 1 bJ λ_=>x.2.1),(7,.i .i64 λ_=>x.2.2),(8,.i .i64 λ_=>(x.1:Int))]) (λ_=>[])
     (λx=>x.1<=C.length/\kT ⟨ins,gs,outs,dr⟩ v x.2.1) (λx=>C.length - x.1) (0,ops,-1) (by exact ao) (by exact ao) ⟨cJ _,H0⟩ ?_
    rintro ⟨i,C0,i_⟩ ⟨hi,PJ⟩
    have hi:i<=C.length:=hi
    have PJ:kT ⟨ins,gs,outs,dr⟩ v C0:=PJ
    have ir:=n0 i
    have hC1:=hCk.1
    have mC:=cd (i:=i) (by omega)
    cbv
    refine ⟨C,⟨h_,hC⟩,?_⟩
    cbv
    refine ⟨λh=>?_,λh=>?_⟩
    ·(have h:=h.out;simp (disch:=exact aU) only [hS] at h)
     have bp:i < C.length:=by exact aU
     have EW:C.length - (i+1) < C.length - i:=by omega
     obtain ⟨c,hc⟩:=bz bp
     have XP:=hCk.2 c (b_ hc)
     have QF:=XP.1
     have pQ:c.length<=1000000:=by omega
     have V8:(i+1<=C.length/\kT ⟨ins,gs,outs,dr⟩ v C0)/\C.length - (i+1) < C.length - i:=⟨⟨bp,PJ⟩,EW⟩
     cbv
     refine ⟨C,⟨h_,hC⟩,?_⟩
     cbv
     refine ⟨c,⟨ir,hc⟩,?_⟩
     cbv
     refine ⟨λh=>?_,λh=>?_⟩
     ·have k9:c.length=1:=by have h':aV (c.length:Int) 1=true:=h.out;simp only [aV,beq_iff_eq] at h';exact aU
      obtain ⟨x0,gl⟩:=bz (l:=c) (i:=0) (by omega)
      have asQ:c[(0:Int).toNat]?=some x0:=gl
      cbv
      refine ⟨x0,⟨jI _,asQ⟩,?_⟩
      cbv
      refine ⟨λh=>?_,λh=>?_⟩
      ·cbv
       exact ⟨(i+1,C0,i_),by have bj:=mC;exact bH,by exact ao,⟨V8⟩⟩
      ·have cZ:x0≠(v:Int):=bE
       have oG:∀x∈c,0<=x/\x < (v:Int):=by
        rcases XP.2 with e|e
        ·exfalso;rw [e] at gl;simp at gl;exact cZ gl.symm
        ·exact e
       cbv
       refine bU.of TQ ⟨L,c⟩ (.inl ⟨by exact aJ,.inl λy=>rfl⟩) ⟨pQ,λz hz=>by have:=oG z hz;show 0<=z/\z < L.length;rw [hL];exact this⟩ λd1 _=>?_
       have KP:(i+1<=C.length/\kT ⟨ins,gs,outs,dr⟩ v c)/\C.length - (i+1) < C.length - i:=⟨⟨bp,HN c QF oG⟩,EW⟩
       cbv
       refine ⟨λh=>?_,λh=>?_⟩
       ·cbv
        exact ⟨(i+1,c,IntKind.i64.wrap (1+d1)),by have bj:=mC;exact bH,by exact ao,⟨KP⟩⟩
       ·cbv
        refine ⟨λh=>?_,λh=>?_⟩
        ·cbv
         exact ⟨(i+1,c,IntKind.i64.wrap (1+d1)),by have bj:=mC;exact bH,by exact ao,⟨KP⟩⟩
        ·cbv
         exact ⟨(i+1,C0,i_),by have bj:=mC;exact bH,by exact ao,⟨V8⟩⟩
     ·have k9:c.length≠1:=by have h':aV (c.length:Int) 1=false:=h.out;simp only [aV,beq_eq_false_iff_ne,ne_eq] at h';exact aU
      have oG:∀x∈c,0<=x/\x < (v:Int):=by
       rcases XP.2 with e|e
       ·exfalso;rw [e] at k9;exact k9 rfl
       ·exact e
      cbv
      refine bU.of TQ ⟨L,c⟩ (.inl ⟨by exact aJ,.inl λy=>rfl⟩) ⟨pQ,λz hz=>by have:=oG z hz;show 0<=z/\z < L.length;rw [hL];exact this⟩ λd1 _=>?_
      have KP:(i+1<=C.length/\kT ⟨ins,gs,outs,dr⟩ v c)/\C.length - (i+1) < C.length - i:=⟨⟨bp,HN c QF oG⟩,EW⟩
      cbv
      refine ⟨λh=>?_,λh=>?_⟩
      ·cbv
       exact ⟨(i+1,c,IntKind.i64.wrap (1+d1)),by have bj:=mC;exact bH,by exact ao,⟨KP⟩⟩
      ·cbv
       refine ⟨λh=>?_,λh=>?_⟩
       ·cbv
        exact ⟨(i+1,c,IntKind.i64.wrap (1+d1)),by have bj:=mC;exact bH,by exact ao,⟨KP⟩⟩
       ·cbv
        exact ⟨(i+1,C0,i_),by have bj:=mC;exact bH,by exact ao,⟨V8⟩⟩
    ·skip
     cbv
     refine ⟨[i_],⟨by exact aJ,by show (L.length+1)*8<=_;omega,by show L.length+1<=_;omega⟩,?_⟩
     cbv
     refine ⟨[C0],⟨by exact aJ,by show (B.length+1)*24<=_;omega,by show B.length+1<=_;omega⟩,?_⟩
     cbv
     exact ⟨⟨v+1,L++[i_],B++[C0]⟩,by have bj:=pX;exact bH,by exact ao,⟨agy i_ C0 PJ,Cs⟩⟩
   ·have mD:nD ⟨ins,gs,outs,dr⟩ v=true:=by have h':(!nD ⟨ins,gs,outs,dr⟩ v)=false:=h.out;simpa using h'
    have H0:kT ⟨ins,gs,outs,dr⟩ v ops:=⟨by omega,j5.mem,λ_=>by
     obtain ⟨g,hg⟩:=bz (l:=gs) (i:=((v:Int) - 2 - ins.length).toNat) (by omega)
     have h7:g.op=7:=by unfold nD at mD;simp only at mD;rw [hg] at mD;simp at mD;exact mD.2
     exact j5.read g (by show 2+(ins.length:Int)<=(v:Int);omega) hg h7⟩
    cbv
    refine ⟨[l0],⟨by have bj:=wu.symm;exact dv,by show (L.length+1)*8<=_;omega,by show L.length+1<=_;omega⟩,?_⟩
    cbv
    refine ⟨[ops],⟨by exact aJ,by show (B.length+1)*24<=_;omega,by show B.length+1<=_;omega⟩,?_⟩
    cbv
    exact ⟨⟨v+1,L++[l0],B++[ops]⟩,by have bj:=pX;exact bH,by exact ao,⟨agy l0 ops H0,Cs⟩⟩
 ·have rD:v=N:=by have h':aS (v:Int) (fM ⟨ins,gs,outs,dr⟩)=false:=h.out;rw [m5] at h';simp only [aS,decide_eq_false_iff_not] at h';exact aU
  have hO:UU ⟨ins,gs,outs,dr⟩ ⟨L,B,0⟩:=⟨λ_=>⟨by show B.length=2+ins.length+gs.length;omega,cq⟩⟩
  cbv
  exact .mk' ⟨L,B,0⟩ ⟨by exact aJ⟩ hO
theorem OC {i n:Nat} (h:aS (i:Int) (n:Int)=false) (hi:i<=n):i=n:=by
 have h':¬(i:Int) < n:=by simpa [aS] using h
 omega
structure Tl (n:Net) (lv:List (List Int)):Prop where
 len:lv.length=2+n.ins.length+n.gG.length
 ok:∀(u:Nat) (l:List Int),2+n.ins.length<=u->lv[u]?=some l->kT n u l
def Mk (nd:List Bool) (x:Int):Prop:=nd[x.toNat]?=some true
theorem Mk.set {nd:List Bool} {x:Int} (h:Mk nd x) (y:Nat):Mk (nd.set y true) x:=by
 unfold Mk at *
 rw [iT]
 have hl:=(bX.1 h).1
 split
 ·rename_i e;subst e;simp [hl]
 ·exact h
theorem Mk.new {nd:List Bool} {x:Int} (h:x.toNat < nd.length):Mk (nd.set x.toNat true) x:=by
 unfold Mk
 rw [iT];simp [h]
structure A9 (N i:Nat) (ds:List Int) (nd:List Bool):Prop where
 le:i<=ds.length
 len:nd.length=N
 dr:∀(j:Nat) (d:Int),j < i->ds[j]?=some d->Mk nd d
theorem A9.nil (N:Nat) (dr:List Int):A9 N 0 dr (List.replicate N false):=⟨cJ _,rK,λj d h=>by omega⟩
theorem A9.add {N i:Nat} {dr:List Int} {nd:List Bool} (h:A9 N i dr nd) {d:Int} (hd:dr[i]?=some d) (h0:0<=d) (h1:d < N):A9 N (i+1) dr (nd.set d.toNat true):=by
 refine ⟨(bX.1 hd).1,by simp [h.len],λj e hj he=>?_⟩
 by_cases nC:j=i
 ·subst nC;rw [hd] at he;cases he
  exact Mk.new (by rw [h.len];omega)
 ·exact (h.dr j e (by omega) he).set _
structure wy (n:Net) (lv:List (List Int)) (k:Nat) (nd:List Bool):Prop where
 len:nd.length=2+n.ins.length+n.gG.length
 dr:∀d∈n.ay,Mk nd d
 cl:∀(u:Nat) (l:List Int),k<=u->2+n.ins.length<=u->nd[u]?=some true->lv[u]?=some l->∀x∈l,Mk nd x
theorem wy.of {n:Net} {lv:List (List Int)} {i:Nat} {nd:List Bool} (h:A9 (2+n.ins.length+n.gG.length) i n.ay nd) (hi:i=n.ay.length):wy n lv (2+n.ins.length+n.gG.length) nd :=
 ⟨h.len,λd hd=>by obtain ⟨j,hj,e⟩:=z8.1 hd;exact h.dr j d (by omega) (by rw [eh hj,e]),λu l hu _ hn _ x _=>by have:=(bX.1 hn).1;rw [h.len] at this;omega⟩
structure C1 (n:Net) (lv:List (List Int)) (k j:Nat) (l:List Int) (nd:List Bool):Prop where
 c:wy n lv (k+1) nd
 le:j<=l.length
 QG:∀(i:Nat) (x:Int),i < j->l[i]?=some x->Mk nd x
theorem wy.start {n:Net} {lv:List (List Int)} {k:Nat} {nd:List Bool} (h:wy n lv (k+1) nd) (l:List Int):C1 n lv k 0 l nd:=⟨h,cJ _,λi x h=>by omega⟩
theorem C1.add {n:Net} {lv:List (List Int)} {k j:Nat} {l:List Int} {nd:List Bool} (h:C1 n lv k j l nd) (hv:kT n k l) {x:Int} (hx:l[j]?=some x) (hk:k < nd.length):C1 n lv k (j+1) l (nd.set x.toNat true):=by
 have hm:=hv.mem x (b_ hx)
 refine ⟨⟨by simp [h.c.len],λd hd=>(h.c.dr d hd).set _,λu l' hu h2 hn hl y hy=>?_⟩,(bX.1 hx).1,λi y hi hy=>?_⟩
 ·refine (h.c.cl u l' hu h2 ?_ hl y hy).set _
  rw [iT] at hn
  split at hn
  ·omega
  ·exact hn
 ·by_cases nC:i=j
  ·subst nC;rw [hx] at hy;cases hy
   exact Mk.new (by omega)
  ·exact (h.QG i y (by omega) hy).set _
theorem C1.out {n:Net} {lv:List (List Int)} {k j:Nat} {l:List Int} {nd:List Bool} (h:C1 n lv k j l nd) (hl:lv[k]?=some l) (hd:nd[k]?=some false\/j=l.length):wy n lv k nd:=by
 refine ⟨h.c.len,h.c.dr,λu l' hu h2 hn xX y hy=>?_⟩
 by_cases huk:u=k
 ·subst huk
  rw [hl] at xX;cases xX
  rcases hd with hd|hd
  ·rw [hd] at hn;cases hn
  ·obtain ⟨i,hi,e⟩:=z8.1 hy
   exact h.QG i y (by omega) (by rw [eh hi,e])
 ·exact h.c.cl u l' (by omega) h2 hn xX y hy
structure KQ where
 v:Nat
 cells:List Cell
 root:List Int
 rl:List (List Int)
structure v7 (n:Net) (nd:List Bool) (x:KQ):Prop where
 lo:2+n.ins.length<=x.v
 hi:x.v<=2+n.ins.length+n.gG.length
 cl:x.cells.length=x.root.length
 dH:x.root.length+(2+n.ins.length)<=x.v
 rl:x.rl.length=x.root.length
 mem:∀u:Nat,2+n.ins.length<=u->u < x.v->nd[u]?=some true->(u:Int)∈x.root
 cells:∀(i:Nat) (c:Cell),x.cells[i]?=some c->J0 (2+n.ins.length+i) c
theorem v7.nil (n:Net) (nd:List Bool):v7 n nd ⟨2+n.ins.length,[],[],[]⟩:=⟨cP _,by show 2+n.ins.length<=_;omega,rfl,by simp,rfl,λu h1 h2=>by have:u < 2+n.ins.length:=h2;omega,λi c h=>by simp at h⟩
theorem v7.skip {n:Net} {nd:List Bool} {v:Nat} {cells:List Cell} {root:List Int} {rl:List (List Int)} (h:v7 n nd ⟨v,cells,root,rl⟩) (hv:v < 2+n.ins.length+n.gG.length) (hd:nd[v]?=some false):v7 n nd ⟨v+1,cells,root,rl⟩ :=
 ⟨by have:=h.lo;show 2+n.ins.length<=v+1;exact Sl this,hv,h.cl,by have:=h.dH;simp only at this ⊢;omega,h.rl,λu h1 h2 hu=>by
  have h2:u < v+1:=h2
  by_cases e:u=v
  ·subst e;rw [hd] at hu;cases hu
  ·exact h.mem u h1 (show u < v by omega) hu,h.cells⟩
theorem v7.add {n:Net} {nd:List Bool} {v:Nat} {cells:List Cell} {root:List Int} {rl:List (List Int)} (h:v7 n nd ⟨v,cells,root,rl⟩) (hv:v < 2+n.ins.length+n.gG.length) {c:Cell} (hc:J0 (2+n.ins.length+root.length) c) (l:List Int):v7 n nd ⟨v+1,cells++[c],root++[(v:Int)],rl++[l]⟩:=by
 have pQ:cells.length=root.length:=h.cl
 refine ⟨by have:=h.lo;show 2+n.ins.length<=v+1;exact Sl this,hv,by simp [pQ],by have:=h.dH;simp at this ⊢;omega,by have:=h.rl;simpa using this,λu h1 h2 hu=>?_,λi d hd=>?_⟩
 ·have h2:u < v+1:=h2
  by_cases e:u=v
  ·subst e;simp
  ·exact BF _ (h.mem u h1 (show u < v by omega) hu)
 ·have hd:(cells++[c])[i]?=some d:=hd
  rw [DP] at hd
  split at hd
  ·exact h.cells i d hd
  ·rename_i aR
   have hi:i - cells.length=0:=by
    have:=(bX.1 hd).1
    simp at this;omega
   rw [hi] at hd
   simp at hd
   subst hd
   have:i=root.length:=by
    have:i - cells.length=0:=hi
    omega
   rw [this];exact hc
structure y6 (n:Net) (R j:Nat) (l:List Int):Prop where
 len:l.length=j
 ok:∀s∈l,0<=s/\s < 2+(n.ins.length:Int)+R
theorem y6.nil (n:Net) (R:Nat):y6 n R 0 []:=⟨rfl,by simp⟩
theorem y6.add {n:Net} {R j:Nat} {l:List Int} (h:y6 n R j l) {s:Int} (hs:0<=s/\s < 2+(n.ins.length:Int)+R):y6 n R (j+1) (l++[s]):=by
 refine ⟨by simp [h.len],λx hx=>?_⟩
 rcases List.mem_append.1 hx with hx|hx
 ·exact h.ok x hx
 ·simp at hx;subst hx;exact hs
theorem adP {n:Net} {lv:List (List Int)} {nd:List Bool} {st:KQ} (h:v7 n nd st) {x:Int} (h0:0<=x) (hx:x < st.v) (hm:2+(n.ins.length:Int)<=x->Mk nd x):0<=tK ⟨n,st.root,st.rl,x⟩/\tK ⟨n,st.root,st.rl,x⟩ < 2+(n.ins.length:Int)+st.root.length:=by
 have hs:=aok ⟨n,st.root,st.rl,x⟩ h0
 by_cases aR:x < 2+(n.ins.length:Int)
 ·rw [hs.lo aR];simp only;omega
 ·have hm:=hm (by omega)
  have:((x.toNat:Nat):Int)∈st.root:=h.mem x.toNat (by omega) (by omega) hm
  rw [Int.toNat_of_nonneg h0] at this
  exact hs.hi this
theorem jz.of {n:Net} {nd:List Bool} {st:KQ} (hn:eQ n) (h:v7 n nd st) {dr:List Int} (hd:y6 n st.root.length n.ay.length dr):jz n ⟨n.ins.length,st.cells,dr⟩:=by
 have h1:=h.dH
 have h2:=h.hi
 have h3:=h.cl
 exact ⟨rfl,by simp only;omega,h.cells,by rw [<-hn.o5];exact hd.len,λd hm=>by have:=hd.ok d hm;simp only;omega⟩
end Go.Proofs.Pk
