import Derived.Test.YthnhbemmlfaihaaGreatU7
import Derived.Test.YthnhbemmlfaihaaGreatU10
set_option linter.unusedVariables false
set_option linter.unusedSimpArgs false
set_option maxRecDepth 10000
set_option maxHeartbeats 64000000
namespace Go.Proofs.Pk
open Go Go.Vc
structure Gv (v:Nat) (L:List (List Int)):Prop where
 nd:L.Nodup
 all:∀l∈L,l.length<=4/\∀x∈l,0<=x/\x < (v:Int)
structure Hv (v:Nat) (L:List (List Int)):Prop where
 nd:L.Nodup
 all:∀l∈L,l.length<=4/\(l=[(v:Int)]\/∀x∈l,0<=x/\x < (v:Int))
theorem Gv.dK {v:Nat} {L:List (List Int)} (h:Gv v L) (hv:v<=600):L.length<=133090713856 :=
 aby h.nd λl hl=>⟨(h.all l hl).1,λx hx=>by have:=(h.all l hl).2 x hx;omega⟩
theorem Hv.dK {v:Nat} {L:List (List Int)} (h:Hv v L) (hv:v<=600):L.length<=133090713856 :=
 aby h.nd λl hl=>⟨(h.all l hl).1,λx hx=>by
  rcases (h.all l hl).2 with e|e
  ·subst e;simp at hx;omega
  ·have:=e x hx;omega⟩
theorem Gv.add {v:Nat} {L r:List (List Int)} (h:Gv v L) {u:List Int} (hu:u.length<=4/\∀x∈u,0<=x/\x < (v:Int)) (hr:AS L u r):Gv v r:=⟨hr.nodup h.nd,hr.all h.all hu⟩
theorem Hv.add {v:Nat} {L r:List (List Int)} (h:Hv v L) {u:List Int} (hu:u.length<=4/\(u=[(v:Int)]\/∀x∈u,0<=x/\x < (v:Int))) (hr:AS L u r):Hv v r:=⟨hr.nodup h.nd,hr.all h.all hu⟩
def Ll (R:List (List (List Int))):Prop:=∀(v:Nat) (L:List (List Int)),R[v]?=some L->L.length<=133090713856/\∀l∈L,l.length<=4/\(l=[(v:Int)]\/∀x∈l,0<=x/\x < (v:Int))
theorem Ll.add {R:List (List (List Int))} (h:Ll R) {L:List (List Int)} (hl:L.length<=133090713856) (ha:∀l∈L,l.length<=4/\(l=[(R.length:Int)]\/∀x∈l,0<=x/\x < (R.length:Int))):Ll (R++[L]):=by
 intro v M hM
 rw [Ea] at hM
 split at hM
 ·exact h v M hM
 ·have hi:v - R.length=0:=by
   have:=(bW.1 hM).1
   simp at this;omega
  rw [hi] at hM
  simp at hM
  subst hM
  have:v=R.length:=by omega
  subst this
  exact ⟨hl,ha⟩
structure EG where
 v:Nat
 R:List (List (List Int))
structure ahl (N:Nat) (x:EG):Prop where
 lo:2<=x.v
 hi:x.v<=N
 len:x.R.length=x.v
 ok:Ll x.R
structure afR (N:Nat) (y:List (List (List Int))):Prop where
 len:y.length=N
 ok:Ll y
structure NK where
 n:Net
 k:Int
@[reducible] noncomputable def aqi:fK where
 α:=NK
 args x:=[.agg (sB x.n),.i .i64 (λ_=>x.k)]
 pre x:=eX x.n/\x.k=4
 β:=List (List (List Int))
 post x y:=afR (2+x.n.ins.length+x.n.gM.length) y
 res x y:=.sl 1 Hl (λ_=>y)
noncomputable def cEv (n m:Nat):Ctx:=fB n m [(51,Tryz.f51),(54,Tryz.f54),(123,Tryz.f123),(124,Tryz.f124),(125,Tryz.f125)] [(122,U6)] [54,123,124,125] [] [] [113] [35,36]
theorem Hy (n m:Nat):CB PP (cEv n m):=fG n m ⟨fo Tryz.func51,fo Tryz.func54,fo Tryz.func123,fo Tryz.func124,fo Tryz.func125,trivial⟩ ⟨acC,trivial⟩
theorem aob:eG PP 52 aqi:=by
 refine iL (Hy 0 0) (fo Tryz.func52) (λa=>⟨tQ a.n,trivial,trivial⟩) (λa y=>(λx=>(abq x).1)) ?_
 rintro ⟨⟨ins,gs,outs,dr⟩,kk⟩ hx
 obtain ⟨hn,ly⟩:eX ⟨ins,gs,outs,dr⟩/\kk=4:=hx
 have wH:2+ins.length+gs.length<=600:=hn.pF
 obtain ⟨N,hN⟩:∃N,N=2+ins.length+gs.length:=⟨_,rfl⟩
 refine ⟨?_⟩
 cbv
 refine ⟨[[[]],[[]]],⟨by exact aK,rfl⟩,?_⟩
 cbv
 refine Sat.cf (Hy 0 0) 6 5 [(.t 5,5)] (λx:EG=>[(5,.own 5),(6,.i .i64 λ_=>(x.v:Int))]) (λx=>[(5,.dyn 36 1 Hl λ_=>x.R)])
  (λx=>ahl N x) (λx=>N - x.v) ⟨2,[[[]],[[]]]⟩ (by exact bJ) (by exact ao) ⟨cR _,by show 2<=N;omega,rfl,λv L h=>by
   match v with
   | 0=>simp at h;subst h;exact ⟨by decide,λl hl=>by simp at hl;subst hl;exact ⟨by decide,.inr (by simp)⟩⟩
   | 1=>simp at h;subst h;exact ⟨by decide,λl hl=>by simp at hl;subst hl;exact ⟨by decide,.inr (by simp)⟩⟩
   | n+2=>simp at h⟩ ?_
 rintro ⟨v,R⟩ ⟨fe,gH,hlen,cg⟩
 simp only at fe gH hlen cg
 have KH:v<=600:=by omega
 have ik:=n0 v
 have qm:=cq (i:=v) (by omega)
 have gh:IntKind.i64.wrap (IntKind.i64.wrap (2+(ins.length:Int))+gs.length)=N:=by rw [cu (n:=2+(ins.length:Int)) (by omega) (by omega),cu (by omega) (by omega)];omega
 cbv
 refine ⟨λh=>?_,λh=>?_⟩
 ·have rW:v < N:=by have:=h.out;simp only [aU,decide_eq_true_eq] at this;rw [gh] at this;exact aT
  have CL:N - (v+1) < N - v:=by omega
  have s6:0<=(v:Int)/\(v:Int) < 2+(ins.length:Int)+gs.length:=by omega
  have ahm:∀l,Hv v l->∀y,Po l y->ahl N ⟨v+1,R++[y]⟩:=λl hl y hy=>⟨by show 2<=v+1;omega,rW,by show (R++[y]).length=v+1;simp [hlen],by
   refine cg.add (by rw [hy.len];exact hl.dK KH) λz hz=>?_
   rw [hlen]
   exact hl.all z (hy.mem z hz)⟩
  have Yz:∀l,Hv v l->l.length<=1000000000000/\∀y∈l,y.length<=1000000:=λl hl=>⟨by have:=hl.dK KH;omega,λy hy=>by have:=(hl.all y hy).1;omega⟩
  have H0:Hv v [[(v:Int)]]:=⟨by simp,λl hl=>by simp at hl;subst hl;exact ⟨by simp,.inl rfl⟩⟩
  cbv
  refine ⟨⟨⟨ins,gs,outs,dr⟩,(v:Int)⟩,⟨by exact aK,hn,s6⟩,?_⟩
  cbv
  refine ⟨λh=>?_,λh=>?_⟩
  ·cbv
   refine bV.rel Gw ⟨⟨ins,gs,outs,dr⟩,(v:Int)⟩ (by exact aK) ⟨hn,s6⟩ λops kp=>?_
   have kp:CK ⟨ins,gs,outs,dr⟩ v ops:=kp.out
   have gv:=kp.len
   cbv
   refine Sat.cf (Hy 0 0) 6 8 [] (λx:Nat × List (List Int)=>[(8,.sl 1 jc λ_=>x.2),(9,.sl 1 bM λ_=>ops),(10,.i .i64 λ_=>(x.1:Int))]) (λ_=>[])
    (λx=>x.1<=ops.length/\Gv v x.2) (λx=>ops.length - x.1) (0,[[]]) (by exact ao) (by exact ao) ⟨cN _,by simp,λl hl=>by simp at hl;subst hl;exact ⟨by decide,by simp⟩⟩ ?_
   rintro ⟨i,mg⟩ ⟨hi,Rv⟩
   simp only at hi Rv
   have iB:=n0 i
   have mO:=cq (i:=i) (by omega)
   have aBg:=Rv.dK KH
   cbv
   refine ⟨λh=>?_,λh=>?_⟩
   ·(have h:=h.out;simp (disch:=exact aT) only [hS] at h)
    have bt:i < ops.length:=by exact aT
    have Fe:ops.length - (i+1) < ops.length - i:=by omega
    obtain ⟨op,fk⟩:=bD bt
    have WV:=kp.mem op (cb fk)
    have WY:op.toNat < R.length:=by exact aT
    obtain ⟨L,hL⟩:=bD WY
    have hLk:=cg _ L hL
    cbv
    refine Sat.cf (Hy 0 0) 6 11 [] (λx:Nat × List (List Int)=>[(11,.sl 1 jc λ_=>x.2),(12,.i .i64 λ_=>(x.1:Int))]) (λ_=>[])
     (λx=>x.1<=mg.length/\Gv v x.2) (λx=>mg.length - x.1) (0,[]) (by exact ao) (by exact ao) ⟨cN _,by simp,λl hl=>by simp at hl⟩ ?_
    rintro ⟨a,nx⟩ ⟨ha,tA⟩
    simp only at ha tA
    have FE:=n0 a
    have ha1:=cq (i:=a) (by omega)
    cbv
    refine ⟨λh=>?_,λh=>?_⟩
    ·(have h:=h.out;simp (disch:=exact aT) only [hS] at h)
     have wO:a < mg.length:=by exact aT
     have atO:mg.length - (a+1) < mg.length - a:=by omega
     obtain ⟨ma,hma⟩:=bD wO
     have ahn:=Rv.all ma (cb hma)
     cbv
     refine Sat.cf (Hy 0 0) 6 13 [] (λx:Nat × List (List Int)=>[(11,.sl 1 jc λ_=>x.2),(13,.i .i64 λ_=>(x.1:Int))]) (λ_=>[])
      (λx=>x.1<=L.length/\Gv v x.2) (λx=>L.length - x.1) (0,nx) (by exact ao) (by exact ao) ⟨cN _,tA⟩ ?_
     rintro ⟨b,nx⟩ ⟨hb,tA⟩
     simp only at hb tA
     have ef:=n0 b
     have jx:=cq (i:=b) (by omega)
     have aBh:=tA.dK KH
     cbv
     refine ⟨op,⟨iB,fk⟩,?_⟩
     cbv
     refine ⟨⟨WV.1,WY⟩,?_⟩
     cbv
     refine ⟨L,⟨hL,rfl⟩,?_⟩
     cbv
     refine ⟨λh=>?_,λh=>?_⟩
     ·(have h:=h.out;simp (disch:=exact aT) only [hS] at h)
      have dP:b < L.length:=by exact aT
      have aho:L.length - (b+1) < L.length - b:=by omega
      obtain ⟨lb,Mi⟩:=bD dP
      have ahp:=hLk.2 lb (cb Mi)
      have aBi:=ahp.1
      have aBj:=ahn.1
      have atP:∀x∈lb,0<=x/\x < (v:Int):=λx hx=>by
       rcases ahp.2 with e|e
       ·subst e;simp at hx;exact aT
       ·have:=e x hx;exact aT
      cbv
      refine ⟨ma,⟨FE,hma⟩,?_⟩
      cbv
      refine ⟨op,⟨iB,fk⟩,?_⟩
      cbv
      refine ⟨⟨WV.1,WY⟩,?_⟩
      cbv
      refine ⟨L,⟨hL,rfl⟩,?_⟩
      cbv
      refine ⟨lb,⟨ef,Mi⟩,?_⟩
      cbv
      refine bV.rel Ub ⟨ma,lb⟩ (by exact aK) ⟨by show ma.length<=_;omega,by show lb.length<=_;omega⟩ λu hu=>?_
      have hu:OA ma lb u:=hu.out
      cbv
      refine ⟨λh=>?_,λh=>?_⟩
      ·have hu4:u.length<=4:=by have:=h.out;simp only [cV,decide_eq_true_eq] at this;rw [ly] at this;exact aT
       have huG:u.length<=4/\∀x∈u,0<=x/\x < (v:Int):=⟨hu4,λx hx=>(hu.mem x hx).elim (ahn.2 x) (atP x)⟩
       cbv
       refine bV.rel aeE ⟨nx,u⟩ (by exact aK) ⟨by show nx.length<=_;omega,λy hy=>by have:=(tA.all y hy).1;show y.length<=1000;omega,by show u.length<=_;omega⟩ λr hr=>?_
       have hr:AS nx u r:=hr.out
       have hG:=tA.add huG hr
       cbv
       exact ⟨(b+1,r),by have bg:=jx;exact bJ,by exact ao,⟨⟨dP,hG⟩,aho⟩⟩
      ·cbv
       exact ⟨(b+1,nx),by have bg:=jx;exact bJ,by exact ao,⟨⟨dP,tA⟩,aho⟩⟩
     ·cbv
      exact ⟨(a+1,nx),by have bg:=ha1;exact bJ,by exact ao,⟨⟨wO,tA⟩,atO⟩⟩
    ·cbv
     exact ⟨(i+1,nx),by have bg:=mO;exact bJ,by exact ao,⟨⟨bt,tA⟩,Fe⟩⟩
   ·cbv
    refine Sat.cf (Hy 0 0) 6 7 [] (λx:Nat × List (List Int)=>[(7,.sl 1 jc λ_=>x.2),(8,.sl 1 jc λ_=>mg),(15,.i .i64 λ_=>(x.1:Int))]) (λ_=>[])
     (λx=>x.1<=mg.length/\Hv v x.2) (λx=>mg.length - x.1) (0,[[(v:Int)]]) (by exact ao) (by exact ao) ⟨cN _,H0⟩ ?_
    rintro ⟨j,l⟩ ⟨hj,hl⟩
    simp only at hj hl
    have iN:=n0 j
    have vz:=cq (i:=j) (by omega)
    have oh:=hl.dK KH
    cbv
    refine ⟨λh=>?_,λh=>?_⟩
    ·(have h:=h.out;simp (disch:=exact aT) only [hS] at h)
     have er:j < mg.length:=by exact aT
     have WX:mg.length - (j+1) < mg.length - j:=by omega
     obtain ⟨mj,hmj⟩:=bD er
     have ahq:=Rv.all mj (cb hmj)
     have atQ:=ahq.1
     cbv
     refine ⟨mj,⟨iN,hmj⟩,?_⟩
     cbv
     refine bV.rel aeE ⟨l,mj⟩ (by exact aK) ⟨by show l.length<=_;omega,λy hy=>by have:=(hl.all y hy).1;show y.length<=1000;omega,by show mj.length<=_;omega⟩ λr hr=>?_
     have hr:AS l mj r:=hr.out
     have hG:=hl.add ⟨atQ,.inr ahq.2⟩ hr
     cbv
     exact ⟨(j+1,r),by have bg:=vz;exact bJ,by exact ao,⟨⟨er,hG⟩,WX⟩⟩
    ·cbv
     refine bV.rel aeH l (by exact aK) ⟨(Yz l hl).1,(Yz l hl).2⟩ λy hy=>?_
     have hy:Po l y:=hy.out
     have hT:=ahm l hl y hy
     cbv
     refine ⟨[y],⟨by exact aK,rfl⟩,?_⟩
     cbv
     refine ⟨[y],⟨by exact aK,by show (R.length+1)*24<=_;omega,by show R.length+1<=_;omega⟩,?_⟩
     cbv
     exact ⟨⟨v+1,R++[y]⟩,by have bg:=qm;exact bJ,by exact ao,⟨hT,CL⟩⟩
  ·cbv
   refine bV.rel aeH [[(v:Int)]] (by exact aK) ⟨Yz _ H0⟩ λy hy=>?_
   have hy:Po [[(v:Int)]] y:=hy.out
   have hT:=ahm _ H0 y hy
   cbv
   refine ⟨[y],⟨by exact aK,rfl⟩,?_⟩
   cbv
   refine ⟨[y],⟨by exact aK,by show (R.length+1)*24<=_;omega,by show R.length+1<=_;omega⟩,?_⟩
   cbv
   exact ⟨⟨v+1,R++[y]⟩,by have bg:=qm;exact bJ,by exact ao,⟨hT,CL⟩⟩
 ·have rW:v=N:=by have:=h.out;simp only [aU,decide_eq_false_iff_not] at this;rw [gh] at this;exact aT
  have PS:R.length=2+ins.length+gs.length:=by omega
  cbv
  exact .mk' R ⟨by exact aK⟩ ⟨PS,cg⟩
end Go.Proofs.Pk
