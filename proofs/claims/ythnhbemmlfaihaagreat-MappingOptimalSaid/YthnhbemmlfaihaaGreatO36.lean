import Derived.Test.YthnhbemmlfaihaaGreatO13
import Derived.Test.YthnhbemmlfaihaaGreatO35
set_option linter.unusedVariables false
set_option linter.unusedSimpArgs false
set_option maxRecDepth 10000
set_option maxHeartbeats 64000000
namespace Go.Proofs.Pk
open Go Go.Vc
structure abO (n:Net) (lv:List (List Int)) (y:Fz):Prop where
 e:y.e=0
 out:Rp n lv y.m y.root y.rl
@[reducible] noncomputable def aqU:jT where
 α:=aqS
 args x:=[.agg (jX x.n),.sl 1 eB (λ_=>x.lv)]
 pre x:=cb x.n.ins.length x.n.aY/\Qt x.n x.lv/\x.n.bj.length<=1000000/\∀d∈x.n.bj,0<=d/\d < 2+(x.n.ins.length:Int)+x.n.aY.length
 β:=Fz
 post x y:=abO x.n x.lv y
 res x y:=S6 y
theorem ajN {n:Net} (hn:cb n.ins.length n.aY) {v:Nat} (h:mb n v=true):∃g,(0<=IntKind.i64.wrap (IntKind.i64.wrap ((v:Int) - 2) - (n.ins.length:Int))/\n.aY[(IntKind.i64.wrap (IntKind.i64.wrap ((v:Int) - 2) - (n.ins.length:Int))).toNat]?=some g)/\∀l,u9 n.ins.length n.aY v l=(0,g.n):=by
 unfold mb at h
 simp only [cG,decide_eq_true_eq] at h
 obtain ⟨h1,h2⟩:=h
 split at h2
 ·rename_i g hg
  have hb:=hn.j6
  have hl:=(a7.1 hg).1
  have h7:g.op=7:=by simpa using h2
  refine ⟨g,⟨?_,?_⟩,λl=>?_⟩
  ·rw [cW (n:=(v:Int) - 2) (by omega) (by omega),cW (by omega) (by omega)];omega
  ·rw [cW (n:=(v:Int) - 2) (by omega) (by omega),cW (by omega) (by omega)];exact hg
  ·unfold u9
   rw [lB.2 ⟨((v:Int) - 2 - n.ins.length).toNat,by omega,hg⟩]
   simp [h7]
 ·cases h2
theorem akX {n:Net} {v:Nat} (h:mb n v=false) (h2:2+n.ins.length<=v) (hv:v < 2+n.ins.length+n.aY.length) (l:List Int):u9 n.ins.length n.aY v l=((nj n.ins.length n.aY v l).1,-1):=by
 obtain ⟨g,hg⟩:=bK (l:=n.aY) (i:=v - 2 - n.ins.length) (by omega)
 have e:((v:Int) - 2 - n.ins.length).toNat=v - 2 - n.ins.length:=by omega
 have h3:2+(n.ins.length:Int)<=(v:Int):=by omega
 unfold mb at h
 rw [e,hg] at h
 have h7:g.op≠7:=by simpa [h3] using h
 unfold u9
 rw [lB.2 ⟨v - 2 - n.ins.length,by omega,hg⟩]
 simp [h7]
structure rm (n:Net) (lv:List (List Int)) (nd:List Bool) (x:AK):Prop where
 lo:2+n.ins.length<=x.v
 hi:x.v<=2+n.ins.length+n.aY.length
 er:x.root=jz nd n.ins.length x.v
 el:x.rl=x.root.map (nS lv)
 ec:x.cells=x.root.map (w7 n.ins.length n.aY (jz nd n.ins.length (2+n.ins.length+n.aY.length)) lv)
theorem rm.nil (n:Net) (lv:List (List Int)) (nd:List Bool):rm n lv nd ⟨2+n.ins.length,[],[],[]⟩:=⟨fb _,by show 2+n.ins.length<=_;omega,(WK nd _).symm,rfl,rfl⟩
theorem rm.gl {n:Net} {lv:List (List Int)} {nd:List Bool} {x:AK} (h:rm n lv nd x):x.root.length+(2+n.ins.length)<=x.v:=by
 have h1:=h.lo
 have:=YR nd n.ins.length (x.v - (2+n.ins.length))
 rw [show 2+n.ins.length+(x.v - (2+n.ins.length))=x.v by omega,<-h.er] at this
 omega
theorem rm.skip {n:Net} {lv:List (List Int)} {nd:List Bool} {v:Nat} {cells:List Cell} {root:List Int} {rl:List (List Int)} (h:rm n lv nd ⟨v,cells,root,rl⟩) (hv:v < 2+n.ins.length+n.aY.length) (hd:nd[v]?=some false):rm n lv nd ⟨v+1,cells,root,rl⟩ :=
 ⟨BH h.lo,hv,by show root=jz nd n.ins.length (v+1);rw [ait hd];exact h.er,h.el,h.ec⟩
theorem rm.add {n:Net} {lv:List (List Int)} {nd:List Bool} {v:Nat} {cells:List Cell} {root:List Int} {rl:List (List Int)} (h:rm n lv nd ⟨v,cells,root,rl⟩) (hv:v < 2+n.ins.length+n.aY.length) (hd:nd[v]?=some true) {l:List Int} (hl:lv[v]?=some l) {c:Cell}
  (hc:c=w7 n.ins.length n.aY (jz nd n.ins.length (2+n.ins.length+n.aY.length)) lv v):rm n lv nd ⟨v+1,cells++[c],root++[(v:Int)],rl++[l]⟩:=by
 have cV:nS lv (v:Int)=l:=by unfold nS;rw [ke,List.getD_eq_getElem?_getD,hl];rfl
 refine ⟨BH h.lo,hv,?_,?_,?_⟩
 ·show root++[(v:Int)]=jz nd n.ins.length (v+1)
  rw [ajK hd h.lo,<-show root=jz nd n.ins.length v from h.er]
 ·show rl++[l]=(root++[(v:Int)]).map (nS lv)
  rw [qm,<-show rl=root.map (nS lv) from h.el,iG,zC,cV]
 ·show cells++[c]=(root++[(v:Int)]).map _
  rw [qm,iG,zC,hc]
  exact congrArg (·++_) h.ec
def S7 (n:Net) (nd:List Bool) (x:Int):Int:=(eu n.ins.length (jz nd n.ins.length (2+n.ins.length+n.aY.length)) x).getD 0
theorem rm.sig {n:Net} {lv:List (List Int)} {nd:List Bool} {st:AK} (h:rm n lv nd st) {x:Int} (h0:0<=x) (hx:x < st.v) (hm:2+(n.ins.length:Int)<=x->Mk nd x):uK ⟨n,st.root,st.rl,x⟩=S7 n nd x:=by
 have hh:=h.hi
 have:=amv (n:=n) (nd:=nd) (v:=st.v) (k:=2+n.ins.length+n.aY.length - st.v) (rl:=st.rl) h0 hx hm
 rw [h.er,this,show st.v+(2+n.ins.length+n.aY.length - st.v)=2+n.ins.length+n.aY.length by omega]
 rfl
structure rI (n:Net) (nd:List Bool) (l:List Int) (j:Nat) (xi:List Int):Prop where
 le:j<=l.length
 eq:xi=(l.take j).map (S7 n nd)
theorem rI.nil (n:Net) (nd:List Bool) (l:List Int):rI n nd l 0 []:=⟨cg _,rfl⟩
theorem rI.len {n:Net} {nd:List Bool} {l:List Int} {j:Nat} {xi:List Int} (h:rI n nd l j xi):xi.length=j:=by rw [h.eq,jP,jd];have:=h.le;omega
theorem rI.add {n:Net} {nd:List Bool} {l:List Int} {j:Nat} {xi:List Int} (h:rI n nd l j xi) {x s:Int} (hx:l[j]?=some x) (hs:s=S7 n nd x):rI n nd l (j+1) (xi++[s]) :=
 ⟨(a7.1 hx).1,by rw [pJ hx,qm,<-h.eq,iG,zC,hs]⟩
theorem rI.cell {n:Net} {nd:List Bool} {lv:List (List Int)} {v:Nat} {l xi:List Int} (hl:lv[v]?=some l) (h:rI n nd l l.length xi) {T R:Int} (ht:u9 n.ins.length n.aY v l=(T,R)):(⟨xi,T,R⟩:Cell)=w7 n.ins.length n.aY (jz nd n.ins.length (2+n.ins.length+n.aY.length)) lv v:=by
 have cV:nS lv (v:Int)=l:=by unfold nS;rw [ke,List.getD_eq_getElem?_getD,hl];rfl
 unfold w7
 rw [cV,ht,h.eq,x3]
 rfl
theorem amx {n:Net} {lv:List (List Int)} {nd:List Bool} (hc:rH n lv (2+n.ins.length) nd) (hs:Sound n lv nd) {st:AK} (h:rm n lv nd st) (hv:st.v=2+n.ins.length+n.aY.length) {xi:List Int} (hd:rI n nd n.bj n.bj.length xi):Rp n lv ⟨n.ins.length,st.cells,xi⟩ st.root st.rl:=by
 have e:=h.er
 rw [hv] at e
 refine ⟨nd,hc,hs,e,h.el,?_⟩
 rw [h.ec,e,hd.eq,x3]
 rfl
noncomputable def cBy (n m:Nat):Ctx:=iD n m [(184,Tryz.f184)] [(51,q7),(107,IP),(118,IN)] [184] [] [28]
theorem Cz (n m:Nat):CB PP (cBy n m):=iH n m ⟨fo Tryz.func184,trivial⟩ ⟨rS,L8,L6,trivial⟩
noncomputable def aqV (n m:Nat):Ctx:=iD n m [(184,Tryz.f184)] [(51,q7),(107,IP),(118,IN)] [184]
theorem amy (n m:Nat):CB PP (aqV n m):=iH n m ⟨fo Tryz.func184,trivial⟩ ⟨rS,L8,L6,trivial⟩
theorem amz:kQ PP 110 aqU:=by
 refine qZ (Cz 0 0) (fo Tryz.func110) (λa=>⟨mr a.n,(λx=>(mT x).1),trivial⟩) (λa y=>ZL y) ?_
 rintro ⟨⟨ins,gs,outs,dr⟩,lv⟩ hx
 obtain ⟨hn,cV,adg,yL⟩:cb ins.length gs/\Qt ⟨ins,gs,outs,dr⟩ lv/\dr.length<=1000000/\∀d∈dr,0<=d/\d < 2+(ins.length:Int)+gs.length:=hx
 have uI:2+ins.length+gs.length<=600:=hn.j6
 have azx:lv.length=2+ins.length+gs.length:=cV.len
 have adh:=cV.ok
 have mM:fg ⟨ins,gs,outs,dr⟩=((2+ins.length+gs.length:Nat):Int):=by unfold fg;simp only;omega
 have qb:IntKind.i64.wrap (2+(ins.length:Int))=((2+ins.length:Nat):Int):=by rw [cW (by omega) (by omega)];omega
 have vT:List.replicate (fg ⟨ins,gs,outs,dr⟩).toNat false=List.replicate (2+ins.length+gs.length) false:=by rw [mM];rfl
 have lg:0<=fg ⟨ins,gs,outs,dr⟩/\(1:Int)*fg ⟨ins,gs,outs,dr⟩<=281474976710656/\fg ⟨ins,gs,outs,dr⟩<=9223372036854775807:=by rw [mM];omega
 refine ⟨?_⟩
 cbv
 refine ⟨⟨ins,gs,outs,dr⟩,⟨by exact bp,by show 2+ins.length+gs.length<=_;omega⟩,?_⟩
 cbv
 refine ⟨⟨lg.1,iU _,lg.2.1,lg.2.2⟩,?_⟩
 cbv
 have hN1:zf (2+ins.length+gs.length) 0 dr (List.replicate (fg ⟨ins,gs,outs,dr⟩).toNat false):=by rw [vT];exact .nil _ _
 have hS1:Sound ⟨ins,gs,outs,dr⟩ lv (List.replicate (fg ⟨ins,gs,outs,dr⟩).toNat false):=Sound.nil _ _ _
 refine Sat.cU (Cz 0 0) 3 6 [(.t 5,2)] (λx:Nat × List Bool=>[(5,.own 2),(6,.i .i64 λ_=>(x.1:Int))]) (λx=>[(2,.dyn 4 1 lX λ_=>x.2)])
  (λx=>zf (2+ins.length+gs.length) x.1 dr x.2/\Sound ⟨ins,gs,outs,dr⟩ lv x.2) (λx=>dr.length - x.1) (0,List.replicate (fg ⟨ins,gs,outs,dr⟩).toNat false) (by exact aM) (by exact aM) ⟨hN1,hS1⟩ ?_
 rintro ⟨i,nd⟩ ⟨hJ,Oc⟩
 have hJ:zf (2+ins.length+gs.length) i dr nd:=hJ
 have Oc:Sound ⟨ins,gs,outs,dr⟩ lv nd:=Oc
 have hi:=hJ.le
 have aqW:=hJ.len
 have h0:=n0 i
 have h1:=cX (i:=i) (by omega)
 cbv
 refine ⟨λh=>?_,λh=>?_⟩
 ·have bQ:i < dr.length:=aL
  have bX:dr.length - (i+1) < dr.length - i:=by omega
  refine (bK bQ).elim λd hd=>?_
  have yX:=yL d (cf hd)
  have hdi:0<=d/\d.toNat < nd.length:=by exact bT
  refine (bK hdi.2).elim λb0 so=>?_
  have bV:=And.intro (hJ.add hd yX.1 (by exact bT)) (Oc.y9 (n:=⟨ins,gs,outs,dr⟩) (cf hd))
  cbv
  refine ⟨d,⟨h0,hd⟩,?_⟩
  cbv
  refine ⟨⟨hdi⟩,?_⟩
  cbv
  refine ⟨(b0,true),⟨so,rfl,by exact bW⟩,?_⟩
  cbv
  exact ⟨(i+1,nd.set d.toNat true),by exact aM,by exact aM,⟨⟨bV,bX⟩⟩⟩
 ·have cz:i=dr.length:=L7 h.out hi
  have hC:rH ⟨ins,gs,outs,dr⟩ lv (2+ins.length+gs.length) nd:=rH.of (n:=⟨ins,gs,outs,dr⟩) hJ cz
  have gR:IntKind.i64.wrap (fg ⟨ins,gs,outs,dr⟩ - 1)=((2+ins.length+gs.length:Nat):Int) - 1:=by rw [mM,cW (by omega) (by omega)]
  clear hJ aqW hi h0 h1
  obtain ⟨N,hN⟩:∃N,N=2+ins.length+gs.length:=⟨_,rfl⟩
  rw [<-hN] at hC gR
  cbv
  refine ⟨⟨ins,gs,outs,dr⟩,⟨by exact bp,by show 2+ins.length+gs.length<=_;omega⟩,?_⟩
  cbv
  refine Sat.cU (Cz 0 0) 3 6 [(.t 5,2)] (λx:Nat × List Bool=>[(5,.own 2),(7,.i .i64 λ_=>(x.1:Int) - 1)]) (λx=>[(2,.dyn 4 1 lX λ_=>x.2)])
   (λx=>x.1<=N/\rH ⟨ins,gs,outs,dr⟩ lv x.1 x.2/\Sound ⟨ins,gs,outs,dr⟩ lv x.2) (λx=>x.1) (N,nd) (by exact aM) (by exact aM) ⟨fb _,hC,Oc⟩ ?_
  rintro ⟨k,e7⟩ ⟨hk,qa,rC⟩
  have rC:Sound ⟨ins,gs,outs,dr⟩ lv e7:=rC
  have hk:k<=N:=hk
  have qa:rH ⟨ins,gs,outs,dr⟩ lv k e7:=qa
  cbv
  refine ⟨λh=>?_,λh=>?_⟩
  ·have Tn:2+ins.length<=k - 1/\1<=k:=by have h':fU (IntKind.i64.wrap (2+(ins.length:Int))) ((k:Int) - 1)=true:=h.out;rw [qb] at h';simp only [fU,decide_eq_true_eq] at h';exact bT
   refine (⟨k - 1,by omega⟩:∃v,k=v+1).elim λv hv=>?_
   subst hv
   have qE:2+ins.length<=v:=by omega
   have A8:((v+1:Nat):Int) - 1=(v:Int):=by omega
   have N1:IntKind.i64.wrap ((v:Int) - 1)=(v:Int) - 1:=by rw [cW (by omega) (by omega)]
   have eM:0<=(v:Int)/\((v:Int)).toNat < e7.length:=by have:=qa.len;simp only at this;omega
   have Du:v < lv.length:=by omega
   refine (bK Du).elim λl hl=>?_
   have CA:qt ⟨ins,gs,outs,dr⟩ v l:=adh v l qE hl
   have IK:v < v+1:=vx v
   cbv
   refine Sat.cU (Cz 0 0) 3 6 [(.t 5,2)] (λx:Nat × List Bool=>[(5,.own 2),(7,.i .i64 λ_=>(v:Int)),(8,.i .i64 λ_=>(x.1:Int))]) (λx=>[(2,.dyn 4 1 lX λ_=>x.2)])
    (λx=>Bk ⟨ins,gs,outs,dr⟩ lv v x.1 l x.2/\Sound ⟨ins,gs,outs,dr⟩ lv x.2) (λx=>l.length - x.1) (0,e7) (by exact aM) (by exact aM) ⟨qa.start l,rC⟩ ?_
   rintro ⟨j,tG⟩ ⟨hJ,Gj⟩
   have Gj:Sound ⟨ins,gs,outs,dr⟩ lv tG:=Gj
   have hJ:Bk ⟨ins,gs,outs,dr⟩ lv v j l tG:=hJ
   have dG:=hJ.le
   have Gg:=CA.len
   have v8:tG.length=2+ins.length+gs.length:=hJ.c.len
   have gV:=n0 j
   have jm:=cX (i:=j) (by omega)
   have JM:0<=(v:Int)/\((v:Int)).toNat < tG.length:=by omega
   refine (bK JM.2).elim λb1 ig=>?_
   have vU:tG[v]?=some b1:=by simpa using ig
   have gP:0<=(v:Int)/\lv[((v:Int)).toNat]?=some l:=⟨n0 v,by simpa using hl⟩
   cbv
   refine ⟨⟨JM⟩,?_⟩
   cbv
   refine ⟨b1,⟨ig,rfl⟩,?_⟩
   cbv
   have hC3:rH ⟨ins,gs,outs,dr⟩ lv v tG/\(tG[v]?=some false\/j=l.length)->(v<=N/\rH ⟨ins,gs,outs,dr⟩ lv v tG/\Sound ⟨ins,gs,outs,dr⟩ lv tG)/\v < v+1:=λh=>⟨⟨by omega,h.1,Gj⟩,IK⟩
   refine ⟨λh=>?_,λh=>?_⟩
   ·have lI:b1=true:=h.out
    cbv
    refine ⟨l,⟨gP⟩,?_⟩
    cbv
    refine ⟨λh=>?_,λh=>?_⟩
    ·have vV:j < l.length:=aL
     have AL:l.length - (j+1) < l.length - j:=by omega
     refine (bK vV).elim λx hx=>?_
     have nB:=CA.mem x (cf hx)
     have nW:0<=x/\x.toNat < tG.length:=by omega
     refine (bK nW.2).elim λb2 nD=>?_
     have bV:=And.intro (hJ.add CA hx (by omega)) (Gj.leaf (n:=⟨ins,gs,outs,dr⟩) (by rw [vU,lI]) qE hl (cf hx))
     cbv
     refine ⟨l,⟨gP⟩,?_⟩
     cbv
     refine ⟨x,⟨gV,hx⟩,?_⟩
     cbv
     refine ⟨⟨nW⟩,?_⟩
     cbv
     refine ⟨(b2,true),⟨nD,rfl,by exact bW⟩,?_⟩
     cbv
     exact ⟨(j+1,tG.set x.toNat true),by exact aM,by exact aM,⟨⟨bV,AL⟩⟩⟩
    ·have pj:j=l.length:=L7 h.out dG
     have iJ:=hJ.out hl (.inr pj)
     cbv
     exact ⟨(v,tG),by exact aM,by exact aM,⟨⟨⟨by omega,iJ,Gj⟩,IK⟩⟩⟩
   ·have lI:b1=false:=h.out
    have iJ:=hJ.out hl (.inl (by rw [vU,lI]))
    cbv
    exact ⟨(v,tG),by exact aM,by exact aM,⟨⟨⟨by omega,iJ,Gj⟩,IK⟩⟩⟩
  ·have cT:k<=2+ins.length:=by have h':fU (IntKind.i64.wrap (2+(ins.length:Int))) ((k:Int) - 1)=false:=h.out;rw [qb] at h';simp only [fU,decide_eq_false_iff_not] at h';exact bT
   have aoe:rH ⟨ins,gs,outs,dr⟩ lv (2+ins.length) e7:=⟨qa.len,qa.dr,λu l h1 h2 h3 h4=>qa.cl u l (by omega) h2 h3 h4⟩
   have j3:∀(u:Nat) (l:List Int),2+ins.length<=u->e7[u]?=some true->lv[u]?=some l->∀x∈l,Mk e7 x:=λu l h1 h2 h3=>qa.cl u l (by omega) h1 h2 h3
   have FV:∀d∈dr,Mk e7 d:=qa.dr
   have v8:e7.length=2+ins.length+gs.length:=qa.len
   clear hC qa
   cbv
   refine Sat.ox 3 1 135 3 QI zT rfl rfl ?_
   refine Sat.ox 3 3 3 1 wV cP rfl rfl ?_
   refine Sat.ox 3 4 35 1 Lq mT rfl rfl ?_
   refine Sat.cU (Cz 0 0) 7 6 [(.c 3 1,4),(.c 3 3,5),(.c 3 4,6)] (λx:AK=>[(9,.ptr 3 0),(10,.i .i64 λ_=>(x.v:Int))]) (λx=>[(3,.fix 94 [.i .i64 (λ_=>(ins.length:Int)),.own 4,.cQ,.own 5,.own 6,.ic .i64 0]),(4,.dyn 135 3 mw λ_=>x.cells),(5,.dyn 3 1 bC λ_=>x.root),(6,.dyn 35 1 eB λ_=>x.rl)])
    (λx=>rm ⟨ins,gs,outs,dr⟩ lv e7 x) (λx=>N - x.v) ⟨2+ins.length,[],[],[]⟩ (by exact aM) (by exact aM) (.nil _ _ _) ?_
   rintro st cC
   have cC:rm ⟨ins,gs,outs,dr⟩ lv e7 st:=cC
   obtain ⟨v,cells,root,rl⟩:=st
   have fL:2+ins.length<=v:=cC.lo
   have j5:v<=2+ins.length+gs.length:=cC.hi
   have acS:root.length+(2+ins.length)<=v:=cC.gl
   have azy:cells.length=root.length:=by have h:cells=root.map _:=cC.ec;rw [h,jP]
   have azz:rl.length=root.length:=by have h:rl=root.map _:=cC.el;rw [h,jP]
   have eM:=n0 v
   have mL:=cX (i:=v) (by omega)
   cbv
   refine ⟨⟨ins,gs,outs,dr⟩,⟨by exact bp,by show 2+ins.length+gs.length<=_;omega⟩,?_⟩
   cbv
   refine ⟨λh=>?_,λh=>?_⟩
   ·have p9:v < N:=by have h':dv (v:Int) (fg ⟨ins,gs,outs,dr⟩)=true:=h.out;rw [mM] at h';simp only [dv,decide_eq_true_eq] at h';exact bT
    have CX:N - (v+1) < N - v:=by omega
    have A8:0<=(v:Int)/\((v:Int)).toNat < e7.length:=⟨eM,by rw [v8];exact bT⟩
    refine (bK A8.2).elim λb1 ig=>?_
    have vU:e7[v]?=some b1:=by simpa using ig
    have AM:v < 2+ins.length+gs.length:=by omega
    have Du:v < lv.length:=by omega
    refine (bK Du).elim λl hl=>?_
    have gP:0<=(v:Int)/\lv[((v:Int)).toNat]?=some l:=⟨n0 v,by simpa using hl⟩
    have rY:0<=(v:Int)/\(v:Int) < fg ⟨ins,gs,outs,dr⟩:=⟨eM,by rw [mM];exact bT⟩
    have CA:qt ⟨ins,gs,outs,dr⟩ v l:=adh v l fL hl
    cbv
    refine ⟨⟨A8⟩,?_⟩
    cbv
    refine ⟨b1,⟨ig,rfl⟩,?_⟩
    cbv
    refine ⟨λh=>?_,λh=>?_⟩
    ·have JB:b1=false:=by have h':(!b1)=true:=h.out;simpa using h'
     have bV:=cC.skip AM (by rw [vU,JB])
     cbv
     exact ⟨⟨v+1,cells,root,rl⟩,by exact aM,by exact aM,⟨⟨bV,CX⟩⟩⟩
    ·have lI:b1=true:=by have h':(!b1)=false:=h.out;simpa using h'
     have aqX:∀x∈l,Mk e7 x:=j3 v l fL (by rw [vU,lI]) hl
     cbv
     refine ⟨⟨⟨ins,gs,outs,dr⟩,v⟩,⟨by exact bp,hn,rY⟩,?_⟩
     cbv
     apply yb (λc k=>∀T R:Int,u9 ins.length gs v l=(T,R)->Sat [] false PP c (UE ⟨ins,gs,outs,dr⟩ lv e7 ⟨v,cells,root,rl⟩ T R) k)
     ·intro tail
      refine ⟨λh=>?_,λh=>?_⟩
      ·have sD:mb ⟨ins,gs,outs,dr⟩ v=true:=h.out
       have hg:=ajN (n:=⟨ins,gs,outs,dr⟩) hn sD
       refine hg.elim λg hg=>?_
       have Gf:u9 ins.length gs v l=(0,g.n):=hg.2 l
       have iB:=hg.1
       cbv
       refine ⟨g,⟨iB⟩,?_⟩
       cbv
       exact iX 8 (UE ⟨ins,gs,outs,dr⟩ lv e7 ⟨v,cells,root,rl⟩ 0 g.n) (by exact aM) (by exact aM) (tail 0 g.n Gf)
      ·have sD:mb ⟨ins,gs,outs,dr⟩ v=false:=h.out
       have F3:u9 ins.length gs v l=((nj ins.length gs v l).1,-1):=akX (n:=⟨ins,gs,outs,dr⟩) sD fL AM l
       cbv
       refine ⟨l,⟨gP⟩,?_⟩
       cbv
       refine fh.rel amh ⟨⟨ins,gs,outs,dr⟩,⟨v,l⟩⟩ (by exact bW) ⟨hn,by show l.length<=_;have:=CA.len;omega⟩ λt ht=>?_
       have ht:nj ins.length gs v l=(t.t,t.e):=ht.out
       have Gf:u9 ins.length gs v l=(t.t,-1):=by rw [F3,ht]
       cbv
       exact iX 8 (UE ⟨ins,gs,outs,dr⟩ lv e7 ⟨v,cells,root,rl⟩ t.t (-1)) (by exact aM) (by exact aM) (tail t.t (-1) Gf)
     ·intro T R hTR
      refine Sat.ox 7 0 3 1 wV cP rfl rfl ?_
      refine Sat.cU (Cz 0 0) 9 12 [(.c 7 0,8)] (λx:Nat × List Int=>[(12,.i .i64 λ_=>(x.1:Int))]) (λx=>[(7,.fix 135 [.own 8,.i .i64 (λ_=>T),.i .i64 (λ_=>R)]),(8,.dyn 3 1 bC λ_=>x.2)])
       (λx=>rI ⟨ins,gs,outs,dr⟩ e7 l x.1 x.2) (λx=>l.length - x.1) (0,[]) (by exact aM) (by exact aM) (.nil _ _ _) ?_
      rintro ⟨j,xi⟩ nW
      have nW:rI ⟨ins,gs,outs,dr⟩ e7 l j xi:=nW
      have hj:j<=l.length:=nW.le
      have Gg:=CA.len
      have qH:=nW.len
      have gV:=n0 j
      have jm:=cX (i:=j) (by omega)
      cbv
      refine ⟨l,⟨gP⟩,?_⟩
      cbv
      refine ⟨λh=>?_,λh=>?_⟩
      ·have vV:j < l.length:=aL
       have AL:l.length - (j+1) < l.length - j:=by omega
       refine (bK vV).elim λx hx=>?_
       have nB:=CA.mem x (cf hx)
       refine (⟨_,rfl⟩:∃s,uK ⟨⟨ins,gs,outs,dr⟩,root,rl,x⟩=s).elim λs hs=>?_
       have JN:=cC.sig nB.1 nB.2 (λ_=>aqX x (cf hx))
       have bV:=nW.add (s:=s) hx (by rw [<-hs];exact JN)
       have UF:root.length<=1000000:=by omega
       have UH:ins.length<=1000:=by omega
       cbv
       refine ⟨l,⟨gP⟩,?_⟩
       cbv
       refine ⟨x,⟨gV,hx⟩,?_⟩
       cbv
       refine ⟨⟨⟨ins,gs,outs,dr⟩,root,rl,x⟩,⟨.inl ⟨by exact bW,rfl⟩,UH,UF,nB.1⟩,?_⟩
       cbv
       refine ⟨[s],⟨by exact bp,by show (xi.length+1)*8<=_;omega,by show xi.length+1<=_;omega⟩,?_⟩
       cbv
       exact ⟨(j+1,xi++[s]),by exact aM,by exact aM,⟨⟨bV,AL⟩⟩⟩
      ·have pj:j=l.length:=L7 h.out hj
       have bV:=cC.add AM (by rw [vU,lI]) hl (rI.cell (n:=⟨ins,gs,outs,dr⟩) hl (pj ▸ nW) hTR)
       cbv
       refine ⟨[(v:Int)],⟨by exact bp,by show (root.length+1)*8<=_;omega,by show root.length+1<=_;omega⟩,?_⟩
       cbv
       refine ⟨l,⟨gP⟩,?_⟩
       cbv
       refine ⟨[l],⟨by exact bp,by show (rl.length+1)*24<=_;omega,by show rl.length+1<=_;omega⟩,?_⟩
       cbv
       refine Sat.freeze 8 rfl rfl ?_
       refine Sat.jN (amy 0 0) ?_
       cbv
       refine ⟨[⟨xi,T,R⟩],⟨by exact bp,by show (cells.length+1)*40<=_;omega,by show cells.length+1<=_;omega⟩,?_⟩
       cbv
       exact ⟨⟨v+1,cells++[⟨xi,T,R⟩],root++[(v:Int)],rl++[l]⟩,by exact aM,by exact aM,⟨⟨bV,CX⟩⟩⟩
   ·have p9:v=N:=by have h':dv (v:Int) (fg ⟨ins,gs,outs,dr⟩)=false:=h.out;rw [mM] at h';simp only [dv,decide_eq_false_iff_not] at h';exact bT
    have aof:∀d∈dr,d < (v:Int):=λd hd=>by have:=yL d hd;exact bT
    cbv
    refine Sat.ox 3 2 3 1 wV cP rfl rfl ?_
    refine Sat.cU (Cz 0 0) 8 10 [(.c 3 2,7)] (λx:Nat × List Int=>[(13,.i .i64 λ_=>(x.1:Int))]) (λx=>[(3,.fix 94 [.i .i64 (λ_=>(ins.length:Int)),.own 4,.own 7,.own 5,.own 6,.ic .i64 0]),(7,.dyn 3 1 bC λ_=>x.2)])
     (λx=>rI ⟨ins,gs,outs,dr⟩ e7 dr x.1 x.2) (λx=>dr.length - x.1) (0,[]) (by exact aM) (by exact aM) (.nil _ _ _) ?_
    rintro ⟨j,xi⟩ nW
    have nW:rI ⟨ins,gs,outs,dr⟩ e7 dr j xi:=nW
    have hj:j<=dr.length:=nW.le
    have qH:=nW.len
    have adg:dr.length<=1000000:=adg
    have gV:=n0 j
    have jm:=cX (i:=j) (by omega)
    cbv
    refine ⟨λh=>?_,λh=>?_⟩
    ·have vV:j < dr.length:=aL
     have AL:dr.length - (j+1) < dr.length - j:=by omega
     refine (bK vV).elim λx hx=>?_
     have nB:=yL x (cf hx)
     have fG:=aof x (cf hx)
     refine (⟨_,rfl⟩:∃s,uK ⟨⟨ins,gs,outs,dr⟩,root,rl,x⟩=s).elim λs hs=>?_
     have JN:=cC.sig nB.1 fG (λ_=>FV x (cf hx))
     have bV:=nW.add (s:=s) hx (by rw [<-hs];exact JN)
     have UF:root.length<=1000000:=by omega
     have UH:ins.length<=1000:=by omega
     cbv
     refine ⟨x,⟨gV,hx⟩,?_⟩
     cbv
     refine ⟨⟨⟨ins,gs,outs,dr⟩,root,rl,x⟩,⟨.inl ⟨by exact bW,rfl⟩,UH,UF,nB.1⟩,?_⟩
     cbv
     refine ⟨[s],⟨by exact bp,by show (xi.length+1)*8<=_;omega,by show xi.length+1<=_;omega⟩,?_⟩
     cbv
     exact ⟨(j+1,xi++[s]),by exact aM,by exact aM,⟨⟨bV,AL⟩⟩⟩
    ·have pj:j=dr.length:=L7 h.out hj
     have iJ:=amx (n:=⟨ins,gs,outs,dr⟩) aoe rC cC (by show v=2+ins.length+gs.length;rw [<-hN];exact p9) (pj ▸ nW)
     cbv
     exact .mk' ⟨⟨ins.length,cells,xi⟩,root,rl,0⟩ ⟨by exact bW⟩ ⟨rfl,iJ⟩
end Go.Proofs.Pk
