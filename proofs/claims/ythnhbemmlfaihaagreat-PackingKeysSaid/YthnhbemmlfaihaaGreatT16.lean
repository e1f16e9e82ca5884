import Derived.Test.YthnhbemmlfaihaaGreatT12
import Derived.Test.YthnhbemmlfaihaaGreatT15
set_option linter.unusedVariables false
set_option linter.unusedSimpArgs false
set_option maxRecDepth 10000
set_option maxHeartbeats 64000000
namespace Go.Proofs.Pk
open Go Go.Vc
structure Gv (v:Nat) (L:List (List Int)):Prop where
 nd:L.Nodup
 all:∀l∈L,l.length<=4/\∀x∈l,0<=x/\x < (v:Int)
structure Hv (v:Nat) (L:List (List Int)):Prop where
 nd:L.Nodup
 all:∀l∈L,l.length<=4/\(l=[(v:Int)]\/∀x∈l,0<=x/\x < (v:Int))
theorem Gv.dK {v:Nat} {L:List (List Int)} (h:Gv v L) (hv:v<=600):L.length<=133090713856 :=
 abO h.nd λl hl=>⟨(h.all l hl).1,λx hx=>by have:=(h.all l hl).2 x hx;omega⟩
theorem Hv.dK {v:Nat} {L:List (List Int)} (h:Hv v L) (hv:v<=600):L.length<=133090713856 :=
 abO h.nd λl hl=>⟨(h.all l hl).1,λx hx=>by
  rcases (h.all l hl).2 with e|e
  ·subst e;simp at hx;omega
  ·have:=e x hx;omega⟩
theorem Gv.add {v:Nat} {L r:List (List Int)} (h:Gv v L) {u:List Int} (hu:u.length<=4/\∀x∈u,0<=x/\x < (v:Int)) (hr:Ba L u r):Gv v r:=⟨hr.nodup h.nd,hr.all h.all hu⟩
theorem Hv.add {v:Nat} {L r:List (List Int)} (h:Hv v L) {u:List Int} (hu:u.length<=4/\(u=[(v:Int)]\/∀x∈u,0<=x/\x < (v:Int))) (hr:Ba L u r):Hv v r:=⟨hr.nodup h.nd,hr.all h.all hu⟩
def Lx (R:List (List (List Int))):Prop:=∀(v:Nat) (L:List (List Int)),R[v]?=some L->L.length<=133090713856/\∀l∈L,l.length<=4/\(l=[(v:Int)]\/∀x∈l,0<=x/\x < (v:Int))
theorem Lx.add {R:List (List (List Int))} (h:Lx R) {L:List (List Int)} (hl:L.length<=133090713856) (ha:∀l∈L,l.length<=4/\(l=[(R.length:Int)]\/∀x∈l,0<=x/\x < (R.length:Int))):Lx (R++[L]):=by
 intro v M hM
 rw [Ew] at hM
 split at hM
 ·exact h v M hM
 ·have hi:v - R.length=0:=by
   have:=(bY.1 hM).1
   simp at this;omega
  rw [hi] at hM
  simp at hM
  subst hM
  have:v=R.length:=by omega
  subst this
  exact ⟨hl,ha⟩
structure EG where
 v:Nat
 R:List (List (List Int))
structure ahv (N:Nat) (x:EG):Prop where
 lo:2<=x.v
 hi:x.v<=N
 len:x.R.length=x.v
 ok:Lx x.R
structure af0 (N:Nat) (y:List (List (List Int))):Prop where
 len:y.length=N
 ok:Lx y
structure NK where
 n:Net
 k:Int
@[reducible] noncomputable def aqC:fO where
 α:=NK
 args x:=[.agg (sH x.n),.i .i64 (λ_=>x.k)]
 pre x:=eU x.n/\x.k=4
 β:=List (List (List Int))
 post x y:=af0 (2+x.n.ins.length+x.n.gP.length) y
 res x y:=.sl 1 HD (λ_=>y)
noncomputable def cEv (n m:Nat):Ctx:=fy n m [(51,Tryz.f51),(54,Tryz.f54),(123,Tryz.f123),(124,Tryz.f124),(125,Tryz.f125)] [(122,Vi)] [54,123,124,125] [] [] [113] [35,36]
theorem HP (n m:Nat):CB PP (cEv n m):=fF n m ⟨fo Tryz.func51,fo Tryz.func54,fo Tryz.func123,fo Tryz.func124,fo Tryz.func125,trivial⟩ ⟨acR,trivial⟩
theorem aos:eM PP 52 aqC:=by
 refine iQ (HP 0 0) (fo Tryz.func52) (λa=>⟨tZ a.n,trivial,trivial⟩) (λa y=>(λx=>(abH x).1)) ?_
 rintro ⟨⟨ins,gs,outs,dr⟩,kk⟩ hx
 obtain ⟨hn,mi⟩:eU ⟨ins,gs,outs,dr⟩/\kk=4:=hx
 have wK:2+ins.length+gs.length<=600:=hn.pI
 obtain ⟨N,hN⟩:∃N,N=2+ins.length+gs.length:=⟨_,rfl⟩
 refine ⟨?_⟩
 cbv
 refine ⟨[[[]],[[]]],⟨by exact aL,rfl⟩,?_⟩
 cbv
 refine Sat.cd (HP 0 0) 6 5 [(.t 5,5)] (λx:EG=>[(5,.own 5),(6,.i .i64 λ_=>(x.v:Int))]) (λx=>[(5,.dyn 36 1 HD λ_=>x.R)])
  (λx=>ahv N x) (λx=>N - x.v) ⟨2,[[[]],[[]]]⟩ (by exact bI) (by exact ao) ⟨cR _,by show 2<=N;omega,rfl,λv L h=>by
   match v with
   | 0=>simp at h;subst h;exact ⟨by decide,λl hl=>by simp at hl;subst hl;exact ⟨by decide,.inr (by simp)⟩⟩
   | 1=>simp at h;subst h;exact ⟨by decide,λl hl=>by simp at hl;subst hl;exact ⟨by decide,.inr (by simp)⟩⟩
   | n+2=>simp at h⟩ ?_
 rintro ⟨v,R⟩ ⟨fa,gF,hlen,cv⟩
 simp only at fa gF hlen cv
 have KX:v<=600:=by omega
 have iq:=n0 v
 have qu:=cj (i:=v) (by omega)
 have fH:IntKind.i64.wrap (IntKind.i64.wrap (2+(ins.length:Int))+gs.length)=N:=by rw [cD (n:=2+(ins.length:Int)) (by omega) (by omega),cD (by omega) (by omega)];omega
 cbv
 refine ⟨λh=>?_,λh=>?_⟩
 ·have rY:v < N:=by have:=h.out;simp only [aS,decide_eq_true_eq] at this;rw [fH] at this;exact aU
  have C0:N - (v+1) < N - v:=by omega
  have te:0<=(v:Int)/\(v:Int) < 2+(ins.length:Int)+gs.length:=by omega
  have ahw:∀l,Hv v l->∀y,Pn l y->ahv N ⟨v+1,R++[y]⟩:=λl hl y hy=>⟨by show 2<=v+1;omega,rY,by show (R++[y]).length=v+1;simp [hlen],by
   refine cv.add (by rw [hy.len];exact hl.dK KX) λz hz=>?_
   rw [hlen]
   exact hl.all z (hy.mem z hz)⟩
  have YJ:∀l,Hv v l->l.length<=1000000000000/\∀y∈l,y.length<=1000000:=λl hl=>⟨by have:=hl.dK KX;omega,λy hy=>by have:=(hl.all y hy).1;omega⟩
  have H0:Hv v [[(v:Int)]]:=⟨by simp,λl hl=>by simp at hl;subst hl;exact ⟨by simp,.inl rfl⟩⟩
  cbv
  refine ⟨⟨⟨ins,gs,outs,dr⟩,(v:Int)⟩,⟨by exact aL,hn,te⟩,?_⟩
  cbv
  refine ⟨λh=>?_,λh=>?_⟩
  ·cbv
   refine bV.rel GP ⟨⟨ins,gs,outs,dr⟩,(v:Int)⟩ (by exact aL) ⟨hn,te⟩ λops kh=>?_
   have kh:CZ ⟨ins,gs,outs,dr⟩ v ops:=kh.out
   have gu:=kh.len
   cbv
   refine Sat.cd (HP 0 0) 6 8 [] (λx:Nat × List (List Int)=>[(8,.sl 1 jd λ_=>x.2),(9,.sl 1 bK λ_=>ops),(10,.i .i64 λ_=>(x.1:Int))]) (λ_=>[])
    (λx=>x.1<=ops.length/\Gv v x.2) (λx=>ops.length - x.1) (0,[[]]) (by exact ao) (by exact ao) ⟨cL _,by simp,λl hl=>by simp at hl;subst hl;exact ⟨by decide,by simp⟩⟩ ?_
   rintro ⟨i,mg⟩ ⟨hi,Ru⟩
   simp only at hi Ru
   have iD:=n0 i
   have mR:=cj (i:=i) (by omega)
   have aA0:=Ru.dK KX
   cbv
   refine ⟨λh=>?_,λh=>?_⟩
   ·(have h:=h.out;simp (disch:=exact aU) only [hS] at h)
    have bq:i < ops.length:=by exact aU
    have FC:ops.length - (i+1) < ops.length - i:=by omega
    obtain ⟨op,fg⟩:=bB bq
    have WY:=kh.mem op (cb fg)
    have W1:op.toNat < R.length:=by exact aU
    obtain ⟨L,hL⟩:=bB W1
    have hLk:=cv _ L hL
    cbv
    refine Sat.cd (HP 0 0) 6 11 [] (λx:Nat × List (List Int)=>[(11,.sl 1 jd λ_=>x.2),(12,.i .i64 λ_=>(x.1:Int))]) (λ_=>[])
     (λx=>x.1<=mg.length/\Gv v x.2) (λx=>mg.length - x.1) (0,[]) (by exact ao) (by exact ao) ⟨cL _,by simp,λl hl=>by simp at hl⟩ ?_
    rintro ⟨a,nx⟩ ⟨ha,tJ⟩
    simp only at ha tJ
    have F1:=n0 a
    have ha1:=cj (i:=a) (by omega)
    cbv
    refine ⟨λh=>?_,λh=>?_⟩
    ·(have h:=h.out;simp (disch:=exact aU) only [hS] at h)
     have wR:a < mg.length:=by exact aU
     have at9:mg.length - (a+1) < mg.length - a:=by omega
     obtain ⟨ma,hma⟩:=bB wR
     have ahx:=Ru.all ma (cb hma)
     cbv
     refine Sat.cd (HP 0 0) 6 13 [] (λx:Nat × List (List Int)=>[(11,.sl 1 jd λ_=>x.2),(13,.i .i64 λ_=>(x.1:Int))]) (λ_=>[])
      (λx=>x.1<=L.length/\Gv v x.2) (λx=>L.length - x.1) (0,nx) (by exact ao) (by exact ao) ⟨cL _,tJ⟩ ?_
     rintro ⟨b,nx⟩ ⟨hb,tJ⟩
     simp only at hb tJ
     have ei:=n0 b
     have jL:=cj (i:=b) (by omega)
     have aA1:=tJ.dK KX
     cbv
     refine ⟨op,⟨iD,fg⟩,?_⟩
     cbv
     refine ⟨⟨WY.1,W1⟩,?_⟩
     cbv
     refine ⟨L,⟨hL,rfl⟩,?_⟩
     cbv
     refine ⟨λh=>?_,λh=>?_⟩
     ·(have h:=h.out;simp (disch:=exact aU) only [hS] at h)
      have eb:b < L.length:=by exact aU
      have ahy:L.length - (b+1) < L.length - b:=by omega
      obtain ⟨lb,Mu⟩:=bB eb
      have ahz:=hLk.2 lb (cb Mu)
      have aA2:=ahz.1
      have aA3:=ahx.1
      have aua:∀x∈lb,0<=x/\x < (v:Int):=λx hx=>by
       rcases ahz.2 with e|e
       ·subst e;simp at hx;exact aU
       ·have:=e x hx;exact aU
      cbv
      refine ⟨ma,⟨F1,hma⟩,?_⟩
      cbv
      refine ⟨op,⟨iD,fg⟩,?_⟩
      cbv
      refine ⟨⟨WY.1,W1⟩,?_⟩
      cbv
      refine ⟨L,⟨hL,rfl⟩,?_⟩
      cbv
      refine ⟨lb,⟨ei,Mu⟩,?_⟩
      cbv
      refine bV.rel Uh ⟨ma,lb⟩ (by exact aL) ⟨by show ma.length<=_;omega,by show lb.length<=_;omega⟩ λu hu=>?_
      have hu:Oz ma lb u:=hu.out
      cbv
      refine ⟨λh=>?_,λh=>?_⟩
      ·have hu4:u.length<=4:=by have:=h.out;simp only [cU,decide_eq_true_eq] at this;rw [mi] at this;exact aU
       have huG:u.length<=4/\∀x∈u,0<=x/\x < (v:Int):=⟨hu4,λx hx=>(hu.mem x hx).elim (ahx.2 x) (aua x)⟩
       cbv
       refine bV.rel aeO ⟨nx,u⟩ (by exact aL) ⟨by show nx.length<=_;omega,λy hy=>by have:=(tJ.all y hy).1;show y.length<=1000;omega,by show u.length<=_;omega⟩ λr hr=>?_
       have hr:Ba nx u r:=hr.out
       have hG:=tJ.add huG hr
       cbv
       exact ⟨(b+1,r),by have bm:=jL;exact bI,by exact ao,⟨⟨eb,hG⟩,ahy⟩⟩
      ·cbv
       exact ⟨(b+1,nx),by have bm:=jL;exact bI,by exact ao,⟨⟨eb,tJ⟩,ahy⟩⟩
     ·cbv
      exact ⟨(a+1,nx),by have bm:=ha1;exact bI,by exact ao,⟨⟨wR,tJ⟩,at9⟩⟩
    ·cbv
     exact ⟨(i+1,nx),by have bm:=mR;exact bI,by exact ao,⟨⟨bq,tJ⟩,FC⟩⟩
   ·cbv
    refine Sat.cd (HP 0 0) 6 7 [] (λx:Nat × List (List Int)=>[(7,.sl 1 jd λ_=>x.2),(8,.sl 1 jd λ_=>mg),(15,.i .i64 λ_=>(x.1:Int))]) (λ_=>[])
     (λx=>x.1<=mg.length/\Hv v x.2) (λx=>mg.length - x.1) (0,[[(v:Int)]]) (by exact ao) (by exact ao) ⟨cL _,H0⟩ ?_
    rintro ⟨j,l⟩ ⟨hj,hl⟩
    simp only at hj hl
    have iO:=n0 j
    have vF:=cj (i:=j) (by omega)
    have mq:=hl.dK KX
    cbv
    refine ⟨λh=>?_,λh=>?_⟩
    ·(have h:=h.out;simp (disch:=exact aU) only [hS] at h)
     have eE:j < mg.length:=by exact aU
     have W0:mg.length - (j+1) < mg.length - j:=by omega
     obtain ⟨mj,hmj⟩:=bB eE
     have ahA:=Ru.all mj (cb hmj)
     have aub:=ahA.1
     cbv
     refine ⟨mj,⟨iO,hmj⟩,?_⟩
     cbv
     refine bV.rel aeO ⟨l,mj⟩ (by exact aL) ⟨by show l.length<=_;omega,λy hy=>by have:=(hl.all y hy).1;show y.length<=1000;omega,by show mj.length<=_;omega⟩ λr hr=>?_
     have hr:Ba l mj r:=hr.out
     have hG:=hl.add ⟨aub,.inr ahA.2⟩ hr
     cbv
     exact ⟨(j+1,r),by have bm:=vF;exact bI,by exact ao,⟨⟨eE,hG⟩,W0⟩⟩
    ·cbv
     refine bV.rel aeR l (by exact aL) ⟨(YJ l hl).1,(YJ l hl).2⟩ λy hy=>?_
     have hy:Pn l y:=hy.out
     have hT:=ahw l hl y hy
     cbv
     refine ⟨[y],⟨by exact aL,rfl⟩,?_⟩
     cbv
     refine ⟨[y],⟨by exact aL,by show (R.length+1)*24<=_;omega,by show R.length+1<=_;omega⟩,?_⟩
     cbv
     exact ⟨⟨v+1,R++[y]⟩,by have bm:=qu;exact bI,by exact ao,⟨hT,C0⟩⟩
  ·cbv
   refine bV.rel aeR [[(v:Int)]] (by exact aL) ⟨YJ _ H0⟩ λy hy=>?_
   have hy:Pn [[(v:Int)]] y:=hy.out
   have hT:=ahw _ H0 y hy
   cbv
   refine ⟨[y],⟨by exact aL,rfl⟩,?_⟩
   cbv
   refine ⟨[y],⟨by exact aL,by show (R.length+1)*24<=_;omega,by show R.length+1<=_;omega⟩,?_⟩
   cbv
   exact ⟨⟨v+1,R++[y]⟩,by have bm:=qu;exact bI,by exact ao,⟨hT,C0⟩⟩
 ·have rY:v=N:=by have:=h.out;simp only [aS,decide_eq_false_iff_not] at this;rw [fH] at this;exact aU
  have PO:R.length=2+ins.length+gs.length:=by omega
  cbv
  exact .mk' R ⟨by exact aL⟩ ⟨PO,cv⟩
end Go.Proofs.Pk
