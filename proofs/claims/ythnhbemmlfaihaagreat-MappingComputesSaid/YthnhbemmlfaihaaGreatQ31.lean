import Derived.Test.YthnhbemmlfaihaaGreatQ11
import Derived.Test.YthnhbemmlfaihaaGreatQ29
import Derived.Test.YthnhbemmlfaihaaGreatQ30
set_option linter.unusedVariables false
set_option linter.unusedSimpArgs false
set_option maxRecDepth 10000
set_option maxHeartbeats 64000000
namespace Go.Proofs.Pk
open Go Go.Vc
structure aec (n:Net) (lv:List (List Int)) (y:BH):Prop where
 e:y.e=0
 out:DA n lv y.m y.root y.rl
@[reducible] noncomputable def atO:jT where
 α:=atM
 args x:=[.agg (jr x.n),.sl 1 e8 (λ_=>x.lv)]
 pre x:=ca x.n.ins.length x.n.aT/\Jm x.n x.lv/\x.n.bj.length<=1000000/\∀d∈x.n.bj,0<=d/\d < 2+(x.n.ins.length:Int)+x.n.aT.length
 β:=BH
 post x y:=aec x.n x.lv y
 res x y:=Hb y
theorem al4 {n:Net} (hn:ca n.ins.length n.aT) {v:Nat} (h:kR n v=true):∃g,(0<=IntKind.i64.wrap (IntKind.i64.wrap ((v:Int) - 2) - (n.ins.length:Int))/\n.aT[(IntKind.i64.wrap (IntKind.i64.wrap ((v:Int) - 2) - (n.ins.length:Int))).toNat]?=some g)/\∀l,vR n.ins.length n.aT v l=(0,g.n):=by
 unfold kR at h
 simp only [cQ,decide_eq_true_eq] at h
 obtain ⟨h1,h2⟩:=h
 split at h2
 ·rename_i g hg
  have hb:=hn.k8
  have hl:=(bt.1 hg).1
  have h7:g.op=7:=by simpa using h2
  refine ⟨g,⟨?_,?_⟩,λl=>?_⟩
  ·rw [dt (n:=(v:Int) - 2) (by omega) (by omega),dt (by omega) (by omega)];omega
  ·rw [dt (n:=(v:Int) - 2) (by omega) (by omega),dt (by omega) (by omega)];exact hg
  ·unfold vR
   rw [lL.2 ⟨((v:Int) - 2 - n.ins.length).toNat,by omega,hg⟩]
   simp [h7]
 ·cases h2
theorem anh {n:Net} {v:Nat} (h:kR n v=false) (h2:2+n.ins.length<=v) (hv:v < 2+n.ins.length+n.aT.length) (l:List Int):vR n.ins.length n.aT v l=((nU n.ins.length n.aT v l).1,-1):=by
 obtain ⟨g,hg⟩:=bO (l:=n.aT) (i:=v - 2 - n.ins.length) (by omega)
 have e:((v:Int) - 2 - n.ins.length).toNat=v - 2 - n.ins.length:=by omega
 have h3:2+(n.ins.length:Int)<=(v:Int):=by omega
 unfold kR at h
 rw [e,hg] at h
 have h7:g.op≠7:=by simpa [h3] using h
 unfold vR
 rw [lL.2 ⟨v - 2 - n.ins.length,by omega,hg⟩]
 simp [h7]
structure rV (n:Net) (lv:List (List Int)) (nd:List Bool) (x:BF):Prop where
 lo:2+n.ins.length<=x.v
 hi:x.v<=2+n.ins.length+n.aT.length
 er:x.root=js nd n.ins.length x.v
 el:x.rl=x.root.map (oA lv)
 ec:x.cells=x.root.map (xV n.ins.length n.aT (js nd n.ins.length (2+n.ins.length+n.aT.length)) lv)
theorem rV.nil (n:Net) (lv:List (List Int)) (nd:List Bool):rV n lv nd ⟨2+n.ins.length,[],[],[]⟩:=⟨fq _,by show 2+n.ins.length<=_;omega,(YN nd _).symm,rfl,rfl⟩
theorem rV.e6 {n:Net} {lv:List (List Int)} {nd:List Bool} {x:BF} (h:rV n lv nd x):x.root.length+(2+n.ins.length)<=x.v:=by
 have h1:=h.lo
 have:=aaP nd n.ins.length (x.v - (2+n.ins.length))
 rw [show 2+n.ins.length+(x.v - (2+n.ins.length))=x.v by omega,<-h.er] at this
 omega
theorem rV.skip {n:Net} {lv:List (List Int)} {nd:List Bool} {v:Nat} {cells:List Cell} {root:List Int} {rl:List (List Int)} (h:rV n lv nd ⟨v,cells,root,rl⟩) (hv:v < 2+n.ins.length+n.aT.length) (hd:nd[v]?=some false):rV n lv nd ⟨v+1,cells,root,rl⟩ :=
 ⟨CU h.lo,hv,by show root=js nd n.ins.length (v+1);rw [akL hd];exact h.er,h.el,h.ec⟩
theorem rV.add {n:Net} {lv:List (List Int)} {nd:List Bool} {v:Nat} {cells:List Cell} {root:List Int} {rl:List (List Int)} (h:rV n lv nd ⟨v,cells,root,rl⟩) (hv:v < 2+n.ins.length+n.aT.length) (hd:nd[v]?=some true) {l:List Int} (hl:lv[v]?=some l) {c:Cell}
  (hc:c=xV n.ins.length n.aT (js nd n.ins.length (2+n.ins.length+n.aT.length)) lv v):rV n lv nd ⟨v+1,cells++[c],root++[(v:Int)],rl++[l]⟩:=by
 have cO:oA lv (v:Int)=l:=by unfold oA;rw [jQ,List.getD_eq_getElem?_getD,hl];rfl
 refine ⟨CU h.lo,hv,?_,?_,?_⟩
 ·show root++[(v:Int)]=js nd n.ins.length (v+1)
  rw [al1 hd h.lo,<-show root=js nd n.ins.length v from h.er]
 ·show rl++[l]=(root++[(v:Int)]).map (oA lv)
  rw [qe,<-show rl=root.map (oA lv) from h.el,iE,AD,cO]
 ·show cells++[c]=(root++[(v:Int)]).map _
  rw [qe,iE,AD,hc]
  exact congrArg (·++_) h.ec
def Ve (n:Net) (nd:List Bool) (x:Int):Int:=(eP n.ins.length (js nd n.ins.length (2+n.ins.length+n.aT.length)) x).getD 0
theorem rV.sig {n:Net} {lv:List (List Int)} {nd:List Bool} {st:BF} (h:rV n lv nd st) {x:Int} (h0:0<=x) (hx:x < st.v) (hm:2+(n.ins.length:Int)<=x->Mk nd x):vD ⟨n,st.root,st.rl,x⟩=Ve n nd x:=by
 have hh:=h.hi
 have:=aoT (n:=n) (nd:=nd) (v:=st.v) (k:=2+n.ins.length+n.aT.length - st.v) (rl:=st.rl) h0 hx hm
 rw [h.er,this,show st.v+(2+n.ins.length+n.aT.length - st.v)=2+n.ins.length+n.aT.length by omega]
 rfl
structure sB (n:Net) (nd:List Bool) (l:List Int) (j:Nat) (xi:List Int):Prop where
 le:j<=l.length
 eq:xi=(l.take j).map (Ve n nd)
theorem sB.nil (n:Net) (nd:List Bool) (l:List Int):sB n nd l 0 []:=⟨cg _,rfl⟩
theorem sB.len {n:Net} {nd:List Bool} {l:List Int} {j:Nat} {xi:List Int} (h:sB n nd l j xi):xi.length=j:=by rw [h.eq,iR,iw];have:=h.le;omega
theorem sB.add {n:Net} {nd:List Bool} {l:List Int} {j:Nat} {xi:List Int} (h:sB n nd l j xi) {x s:Int} (hx:l[j]?=some x) (hs:s=Ve n nd x):sB n nd l (j+1) (xi++[s]) :=
 ⟨(bt.1 hx).1,by rw [sN hx,qe,<-h.eq,iE,AD,hs]⟩
theorem sB.cell {n:Net} {nd:List Bool} {lv:List (List Int)} {v:Nat} {l xi:List Int} (hl:lv[v]?=some l) (h:sB n nd l l.length xi) {T R:Int} (ht:vR n.ins.length n.aT v l=(T,R)):(⟨xi,T,R⟩:Cell)=xV n.ins.length n.aT (js nd n.ins.length (2+n.ins.length+n.aT.length)) lv v:=by
 have cO:oA lv (v:Int)=l:=by unfold oA;rw [jQ,List.getD_eq_getElem?_getD,hl];rfl
 unfold xV
 rw [cO,ht,h.eq,AQ]
 rfl
theorem aoV {n:Net} {lv:List (List Int)} {nd:List Bool} (hc:qI n lv (2+n.ins.length) nd) (hs:Sound n lv nd) {st:BF} (h:rV n lv nd st) (hv:st.v=2+n.ins.length+n.aT.length) {xi:List Int} (hd:sB n nd n.bj n.bj.length xi):DA n lv ⟨n.ins.length,st.cells,xi⟩ st.root st.rl:=by
 have e:=h.er
 rw [hv] at e
 refine ⟨nd,hc,hs,e,h.el,?_⟩
 rw [h.ec,e,hd.eq,AQ]
 rfl
noncomputable def cBy (n m:Nat):Ctx:=ie n m [(184,Tryz.f184)] [(51,qq),(107,Ep),(118,Kq)] [184] [] [28]
theorem DN (n m:Nat):CB PP (cBy n m):=ik n m ⟨fo Tryz.func184,trivial⟩ ⟨qP,Gl,NY,trivial⟩
noncomputable def atP (n m:Nat):Ctx:=ie n m [(184,Tryz.f184)] [(51,qq),(107,Ep),(118,Kq)] [184]
theorem aoW (n m:Nat):CB PP (atP n m):=ik n m ⟨fo Tryz.func184,trivial⟩ ⟨qP,Gl,NY,trivial⟩
theorem aoX:k7 PP 110 atO:=by
 refine qS (DN 0 0) (fo Tryz.func110) (λa=>⟨mu a.n,(λx=>(nJ x).1),trivial⟩) (λa y=>S9 y) ?_
 rintro ⟨⟨ins,gs,outs,dr⟩,lv⟩ hx
 obtain ⟨hn,cO,afs,ur⟩:ca ins.length gs/\Jm ⟨ins,gs,outs,dr⟩ lv/\dr.length<=1000000/\∀d∈dr,0<=d/\d < 2+(ins.length:Int)+gs.length:=hx
 have vB:2+ins.length+gs.length<=600:=hn.k8
 have aCT:lv.length=2+ins.length+gs.length:=cO.len
 have aft:=cO.ok
 have pS:gv ⟨ins,gs,outs,dr⟩=((2+ins.length+gs.length:Nat):Int):=by unfold gv;simp only;omega
 have sy:IntKind.i64.wrap (2+(ins.length:Int))=((2+ins.length:Nat):Int):=by rw [dt (by omega) (by omega)];omega
 have wT:List.replicate (gv ⟨ins,gs,outs,dr⟩).toNat false=List.replicate (2+ins.length+gs.length) false:=by rw [pS];rfl
 have lX:0<=gv ⟨ins,gs,outs,dr⟩/\(1:Int)*gv ⟨ins,gs,outs,dr⟩<=281474976710656/\gv ⟨ins,gs,outs,dr⟩<=9223372036854775807:=by rw [pS];omega
 refine ⟨?_⟩
 cbv
 refine ⟨⟨ins,gs,outs,dr⟩,⟨by exact bp,by show 2+ins.length+gs.length<=_;omega⟩,?_⟩
 cbv
 refine ⟨⟨lX.1,mr _,lX.2.1,lX.2.2⟩,?_⟩
 cbv
 have hN1:zZ (2+ins.length+gs.length) 0 dr (List.replicate (gv ⟨ins,gs,outs,dr⟩).toNat false):=by rw [wT];exact .nil _ _
 have hS1:Sound ⟨ins,gs,outs,dr⟩ lv (List.replicate (gv ⟨ins,gs,outs,dr⟩).toNat false):=Sound.nil _ _ _
 refine Sat.dq (DN 0 0) 3 6 [(.t 5,2)] (λx:Nat × List Bool=>[(5,.own 2),(6,.i .i64 λ_=>(x.1:Int))]) (λx=>[(2,.dyn 4 1 fB λ_=>x.2)])
  (λx=>zZ (2+ins.length+gs.length) x.1 dr x.2/\Sound ⟨ins,gs,outs,dr⟩ lv x.2) (λx=>dr.length - x.1) (0,List.replicate (gv ⟨ins,gs,outs,dr⟩).toNat false) (by exact aM) (by exact aM) ⟨hN1,hS1⟩ ?_
 rintro ⟨i,nd⟩ ⟨hJ,Qb⟩
 have hJ:zZ (2+ins.length+gs.length) i dr nd:=hJ
 have Qb:Sound ⟨ins,gs,outs,dr⟩ lv nd:=Qb
 have hi:=hJ.le
 have atQ:=hJ.len
 have h0:=n0 i
 have h1:=dC (i:=i) (by omega)
 cbv
 refine ⟨λh=>?_,λh=>?_⟩
 ·have bM:i < dr.length:=aH
  have bZ:dr.length - (i+1) < dr.length - i:=by omega
  refine (bO bM).elim λd hd=>?_
  have zK:=ur d (cB hd)
  have hdi:0<=d/\d.toNat < nd.length:=by exact cx
  refine (bO hdi.2).elim λb0 s9=>?_
  have bS:=And.intro (hJ.add hd zK.1 (by exact cx)) (Qb.EJ (n:=⟨ins,gs,outs,dr⟩) (cB hd))
  cbv
  refine ⟨d,⟨h0,hd⟩,?_⟩
  cbv
  refine ⟨⟨hdi⟩,?_⟩
  cbv
  refine ⟨(b0,true),⟨s9,rfl,by exact cj⟩,?_⟩
  cbv
  exact ⟨(i+1,nd.set d.toNat true),by exact aM,by exact aM,⟨⟨bS,bZ⟩⟩⟩
 ·have cG:i=dr.length:=NZ h.out hi
  have hC:qI ⟨ins,gs,outs,dr⟩ lv (2+ins.length+gs.length) nd:=qI.of (n:=⟨ins,gs,outs,dr⟩) hJ cG
  have kL:IntKind.i64.wrap (gv ⟨ins,gs,outs,dr⟩ - 1)=((2+ins.length+gs.length:Nat):Int) - 1:=by rw [pS,dt (by omega) (by omega)]
  clear hJ atQ hi h0 h1
  obtain ⟨N,hN⟩:∃N,N=2+ins.length+gs.length:=⟨_,rfl⟩
  rw [<-hN] at hC kL
  cbv
  refine ⟨⟨ins,gs,outs,dr⟩,⟨by exact bp,by show 2+ins.length+gs.length<=_;omega⟩,?_⟩
  cbv
  refine Sat.dq (DN 0 0) 3 6 [(.t 5,2)] (λx:Nat × List Bool=>[(5,.own 2),(7,.i .i64 λ_=>(x.1:Int) - 1)]) (λx=>[(2,.dyn 4 1 fB λ_=>x.2)])
   (λx=>x.1<=N/\qI ⟨ins,gs,outs,dr⟩ lv x.1 x.2/\Sound ⟨ins,gs,outs,dr⟩ lv x.2) (λx=>x.1) (N,nd) (by exact aM) (by exact aM) ⟨fq _,hC,Qb⟩ ?_
  rintro ⟨k,fj⟩ ⟨hk,qH,pR⟩
  have pR:Sound ⟨ins,gs,outs,dr⟩ lv fj:=pR
  have hk:k<=N:=hk
  have qH:qI ⟨ins,gs,outs,dr⟩ lv k fj:=qH
  cbv
  refine ⟨λh=>?_,λh=>?_⟩
  ·have Vx:2+ins.length<=k - 1/\1<=k:=by have h':gI (IntKind.i64.wrap (2+(ins.length:Int))) ((k:Int) - 1)=true:=h.out;rw [sy] at h';simp only [gI,decide_eq_true_eq] at h';exact cx
   refine (⟨k - 1,by omega⟩:∃v,k=v+1).elim λv hv=>?_
   subst hv
   have nv:2+ins.length<=v:=by omega
   have La:((v+1:Nat):Int) - 1=(v:Int):=by omega
   have PV:IntKind.i64.wrap ((v:Int) - 1)=(v:Int) - 1:=by rw [dt (by omega) (by omega)]
   have ib:0<=(v:Int)/\((v:Int)).toNat < fj.length:=by have:=qH.len;simp only at this;omega
   have EO:v < lv.length:=by omega
   refine (bO EO).elim λl hl=>?_
   have DO:qs ⟨ins,gs,outs,dr⟩ v l:=aft v l nv hl
   have Kp:v < v+1:=wo v
   cbv
   refine Sat.dq (DN 0 0) 3 6 [(.t 5,2)] (λx:Nat × List Bool=>[(5,.own 2),(7,.i .i64 λ_=>(v:Int)),(8,.i .i64 λ_=>(x.1:Int))]) (λx=>[(2,.dyn 4 1 fB λ_=>x.2)])
    (λx=>Cr ⟨ins,gs,outs,dr⟩ lv v x.1 l x.2/\Sound ⟨ins,gs,outs,dr⟩ lv x.2) (λx=>l.length - x.1) (0,fj) (by exact aM) (by exact aM) ⟨qH.start l,pR⟩ ?_
   rintro ⟨j,uK⟩ ⟨hJ,HZ⟩
   have HZ:Sound ⟨ins,gs,outs,dr⟩ lv uK:=HZ
   have hJ:Cr ⟨ins,gs,outs,dr⟩ lv v j l uK:=hJ
   have eo:=hJ.le
   have tw:=DO.len
   have qE:uK.length=2+ins.length+gs.length:=hJ.c.len
   have iM:=n0 j
   have j3:=dC (i:=j) (by omega)
   have Lx:0<=(v:Int)/\((v:Int)).toNat < uK.length:=by omega
   refine (bO Lx.2).elim λb1 iX=>?_
   have wU:uK[v]?=some b1:=by simpa using iX
   have il:0<=(v:Int)/\lv[((v:Int)).toNat]?=some l:=⟨n0 v,by simpa using hl⟩
   cbv
   refine ⟨⟨Lx⟩,?_⟩
   cbv
   refine ⟨b1,⟨iX,rfl⟩,?_⟩
   cbv
   have hC3:qI ⟨ins,gs,outs,dr⟩ lv v uK/\(uK[v]?=some false\/j=l.length)->(v<=N/\qI ⟨ins,gs,outs,dr⟩ lv v uK/\Sound ⟨ins,gs,outs,dr⟩ lv uK)/\v < v+1:=λh=>⟨⟨by omega,h.1,HZ⟩,Kp⟩
   refine ⟨λh=>?_,λh=>?_⟩
   ·have mh:b1=true:=h.out
    cbv
    refine ⟨l,⟨il⟩,?_⟩
    cbv
    refine ⟨λh=>?_,λh=>?_⟩
    ·have wP:j < l.length:=aH
     have BG:l.length - (j+1) < l.length - j:=by omega
     refine (bO wP).elim λx hx=>?_
     have pb:=DO.mem x (cB hx)
     have lW:0<=x/\x.toNat < uK.length:=by omega
     refine (bO lW.2).elim λb2 mi=>?_
     have bS:=And.intro (hJ.add DO hx (by omega)) (HZ.leaf (n:=⟨ins,gs,outs,dr⟩) (by rw [wU,mh]) nv hl (cB hx))
     cbv
     refine ⟨l,⟨il⟩,?_⟩
     cbv
     refine ⟨x,⟨iM,hx⟩,?_⟩
     cbv
     refine ⟨⟨lW⟩,?_⟩
     cbv
     refine ⟨(b2,true),⟨mi,rfl,by exact cj⟩,?_⟩
     cbv
     exact ⟨(j+1,uK.set x.toNat true),by exact aM,by exact aM,⟨⟨bS,BG⟩⟩⟩
    ·have pQ:j=l.length:=NZ h.out eo
     have jA:=hJ.out hl (.inr pQ)
     cbv
     exact ⟨(v,uK),by exact aM,by exact aM,⟨⟨⟨by omega,jA,HZ⟩,Kp⟩⟩⟩
   ·have mh:b1=false:=h.out
    have jA:=hJ.out hl (.inl (by rw [wU,mh]))
    cbv
    exact ⟨(v,uK),by exact aM,by exact aM,⟨⟨⟨by omega,jA,HZ⟩,Kp⟩⟩⟩
  ·have dG:k<=2+ins.length:=by have h':gI (IntKind.i64.wrap (2+(ins.length:Int))) ((k:Int) - 1)=false:=h.out;rw [sy] at h';simp only [gI,decide_eq_false_iff_not] at h';exact cx
   have aqQ:qI ⟨ins,gs,outs,dr⟩ lv (2+ins.length) fj:=⟨qH.len,qH.dr,λu l h1 h2 h3 h4=>qH.cl u l (by omega) h2 h3 h4⟩
   have jC:∀(u:Nat) (l:List Int),2+ins.length<=u->fj[u]?=some true->lv[u]?=some l->∀x∈l,Mk fj x:=λu l h1 h2 h3=>qH.cl u l (by omega) h1 h2 h3
   have Hu:∀d∈dr,Mk fj d:=qH.dr
   have qE:fj.length=2+ins.length+gs.length:=qH.len
   clear hC qH
   cbv
   refine Sat.oV 3 1 135 3 S1 wx rfl rfl ?_
   refine Sat.oV 3 3 3 1 xN df rfl rfl ?_
   refine Sat.oV 3 4 35 1 Nl nJ rfl rfl ?_
   refine Sat.dq (DN 0 0) 7 6 [(.c 3 1,4),(.c 3 3,5),(.c 3 4,6)] (λx:BF=>[(9,.ptr 3 0),(10,.i .i64 λ_=>(x.v:Int))]) (λx=>[(3,.fix 94 [.i .i64 (λ_=>(ins.length:Int)),.own 4,.cW,.own 5,.own 6,.ic .i64 0]),(4,.dyn 135 3 lN λ_=>x.cells),(5,.dyn 3 1 bP λ_=>x.root),(6,.dyn 35 1 e8 λ_=>x.rl)])
    (λx=>rV ⟨ins,gs,outs,dr⟩ lv fj x) (λx=>N - x.v) ⟨2+ins.length,[],[],[]⟩ (by exact aM) (by exact aM) (.nil _ _ _) ?_
   rintro st cH
   have cH:rV ⟨ins,gs,outs,dr⟩ lv fj st:=cH
   obtain ⟨v,cells,root,rl⟩:=st
   have fb:2+ins.length<=v:=cH.lo
   have kN:v<=2+ins.length+gs.length:=cH.hi
   have aeX:root.length+(2+ins.length)<=v:=cH.e6
   have aCU:cells.length=root.length:=by have h:cells=root.map _:=cH.ec;rw [h,iR]
   have aCV:rl.length=root.length:=by have h:rl=root.map _:=cH.el;rw [h,iR]
   have ib:=n0 v
   have nB:=dC (i:=v) (by omega)
   cbv
   refine ⟨⟨ins,gs,outs,dr⟩,⟨by exact bp,by show 2+ins.length+gs.length<=_;omega⟩,?_⟩
   cbv
   refine ⟨λh=>?_,λh=>?_⟩
   ·have uJ:v < N:=by have h':dw (v:Int) (gv ⟨ins,gs,outs,dr⟩)=true:=h.out;rw [pS] at h';simp only [dw,decide_eq_true_eq] at h';exact cx
    have afu:N - (v+1) < N - v:=by omega
    have La:0<=(v:Int)/\((v:Int)).toNat < fj.length:=⟨ib,by rw [qE];exact cx⟩
    refine (bO La.2).elim λb1 iX=>?_
    have wU:fj[v]?=some b1:=by simpa using iX
    have BI:v < 2+ins.length+gs.length:=by omega
    have EO:v < lv.length:=by omega
    refine (bO EO).elim λl hl=>?_
    have il:0<=(v:Int)/\lv[((v:Int)).toNat]?=some l:=⟨n0 v,by simpa using hl⟩
    have zm:0<=(v:Int)/\(v:Int) < gv ⟨ins,gs,outs,dr⟩:=⟨ib,by rw [pS];exact cx⟩
    have DO:qs ⟨ins,gs,outs,dr⟩ v l:=aft v l fb hl
    cbv
    refine ⟨⟨La⟩,?_⟩
    cbv
    refine ⟨b1,⟨iX,rfl⟩,?_⟩
    cbv
    refine ⟨λh=>?_,λh=>?_⟩
    ·have K8:b1=false:=by have h':(!b1)=true:=h.out;simpa using h'
     have bS:=cH.skip BI (by rw [wU,K8])
     cbv
     exact ⟨⟨v+1,cells,root,rl⟩,by exact aM,by exact aM,⟨⟨bS,afu⟩⟩⟩
    ·have mh:b1=true:=by have h':(!b1)=false:=h.out;simpa using h'
     have atS:∀x∈l,Mk fj x:=jC v l fb (by rw [wU,mh]) hl
     cbv
     refine ⟨⟨⟨ins,gs,outs,dr⟩,v⟩,⟨by exact bp,hn,zm⟩,?_⟩
     cbv
     apply wv (λc k=>∀T R:Int,vR ins.length gs v l=(T,R)->Sat [] false PP c (WN ⟨ins,gs,outs,dr⟩ lv fj ⟨v,cells,root,rl⟩ T R) k)
     ·intro tail
      refine ⟨λh=>?_,λh=>?_⟩
      ·have oi:kR ⟨ins,gs,outs,dr⟩ v=true:=h.out
       have hg:=al4 (n:=⟨ins,gs,outs,dr⟩) hn oi
       refine hg.elim λg hg=>?_
       have HQ:vR ins.length gs v l=(0,g.n):=hg.2 l
       have jX:=hg.1
       cbv
       refine ⟨g,⟨jX⟩,?_⟩
       cbv
       exact gg 8 (WN ⟨ins,gs,outs,dr⟩ lv fj ⟨v,cells,root,rl⟩ 0 g.n) (by exact aM) (by exact aM) (tail 0 g.n HQ)
      ·have oi:kR ⟨ins,gs,outs,dr⟩ v=false:=h.out
       have HD:vR ins.length gs v l=((nU ins.length gs v l).1,-1):=anh (n:=⟨ins,gs,outs,dr⟩) oi fb BI l
       cbv
       refine ⟨l,⟨il⟩,?_⟩
       cbv
       refine gw.rel aoS ⟨⟨ins,gs,outs,dr⟩,⟨v,l⟩⟩ (by exact cj) ⟨hn,by show l.length<=_;have:=DO.len;omega⟩ λt ht=>?_
       have ht:nU ins.length gs v l=(t.t,t.e):=ht.out
       have HQ:vR ins.length gs v l=(t.t,-1):=by rw [HD,ht]
       cbv
       exact gg 8 (WN ⟨ins,gs,outs,dr⟩ lv fj ⟨v,cells,root,rl⟩ t.t (-1)) (by exact aM) (by exact aM) (tail t.t (-1) HQ)
     ·intro T R hTR
      refine Sat.oV 7 0 3 1 xN df rfl rfl ?_
      refine Sat.dq (DN 0 0) 9 12 [(.c 7 0,8)] (λx:Nat × List Int=>[(12,.i .i64 λ_=>(x.1:Int))]) (λx=>[(7,.fix 135 [.own 8,.i .i64 (λ_=>T),.i .i64 (λ_=>R)]),(8,.dyn 3 1 bP λ_=>x.2)])
       (λx=>sB ⟨ins,gs,outs,dr⟩ fj l x.1 x.2) (λx=>l.length - x.1) (0,[]) (by exact aM) (by exact aM) (.nil _ _ _) ?_
      rintro ⟨j,xi⟩ lW
      have lW:sB ⟨ins,gs,outs,dr⟩ fj l j xi:=lW
      have hj:j<=l.length:=lW.le
      have tw:=DO.len
      have jM:=lW.len
      have iM:=n0 j
      have j3:=dC (i:=j) (by omega)
      cbv
      refine ⟨l,⟨il⟩,?_⟩
      cbv
      refine ⟨λh=>?_,λh=>?_⟩
      ·have wP:j < l.length:=aH
       have BG:l.length - (j+1) < l.length - j:=by omega
       refine (bO wP).elim λx hx=>?_
       have pb:=DO.mem x (cB hx)
       refine (⟨_,rfl⟩:∃s,vD ⟨⟨ins,gs,outs,dr⟩,root,rl,x⟩=s).elim λs hs=>?_
       have Ly:=cH.sig pb.1 pb.2 (λ_=>atS x (cB hx))
       have bS:=lW.add (s:=s) hx (by rw [<-hs];exact Ly)
       have WO:root.length<=1000000:=by omega
       have WQ:ins.length<=1000:=by omega
       cbv
       refine ⟨l,⟨il⟩,?_⟩
       cbv
       refine ⟨x,⟨iM,hx⟩,?_⟩
       cbv
       refine ⟨⟨⟨ins,gs,outs,dr⟩,root,rl,x⟩,⟨.inl ⟨by exact cj,rfl⟩,WQ,WO,pb.1⟩,?_⟩
       cbv
       refine ⟨[s],⟨by exact bp,by show (xi.length+1)*8<=_;omega,by show xi.length+1<=_;omega⟩,?_⟩
       cbv
       exact ⟨(j+1,xi++[s]),by exact aM,by exact aM,⟨⟨bS,BG⟩⟩⟩
      ·have pQ:j=l.length:=NZ h.out hj
       have bS:=cH.add BI (by rw [wU,mh]) hl (sB.cell (n:=⟨ins,gs,outs,dr⟩) hl (pQ ▸ lW) hTR)
       cbv
       refine ⟨[(v:Int)],⟨by exact bp,by show (root.length+1)*8<=_;omega,by show root.length+1<=_;omega⟩,?_⟩
       cbv
       refine ⟨l,⟨il⟩,?_⟩
       cbv
       refine ⟨[l],⟨by exact bp,by show (rl.length+1)*24<=_;omega,by show rl.length+1<=_;omega⟩,?_⟩
       cbv
       refine Sat.freeze 8 rfl rfl ?_
       refine Sat.j2 (aoW 0 0) ?_
       cbv
       refine ⟨[⟨xi,T,R⟩],⟨by exact bp,by show (cells.length+1)*40<=_;omega,by show cells.length+1<=_;omega⟩,?_⟩
       cbv
       exact ⟨⟨v+1,cells++[⟨xi,T,R⟩],root++[(v:Int)],rl++[l]⟩,by exact aM,by exact aM,⟨⟨bS,afu⟩⟩⟩
   ·have uJ:v=N:=by have h':dw (v:Int) (gv ⟨ins,gs,outs,dr⟩)=false:=h.out;rw [pS] at h';simp only [dw,decide_eq_false_iff_not] at h';exact cx
    have aqR:∀d∈dr,d < (v:Int):=λd hd=>by have:=ur d hd;exact cx
    cbv
    refine Sat.oV 3 2 3 1 xN df rfl rfl ?_
    refine Sat.dq (DN 0 0) 8 10 [(.c 3 2,7)] (λx:Nat × List Int=>[(13,.i .i64 λ_=>(x.1:Int))]) (λx=>[(3,.fix 94 [.i .i64 (λ_=>(ins.length:Int)),.own 4,.own 7,.own 5,.own 6,.ic .i64 0]),(7,.dyn 3 1 bP λ_=>x.2)])
     (λx=>sB ⟨ins,gs,outs,dr⟩ fj dr x.1 x.2) (λx=>dr.length - x.1) (0,[]) (by exact aM) (by exact aM) (.nil _ _ _) ?_
    rintro ⟨j,xi⟩ lW
    have lW:sB ⟨ins,gs,outs,dr⟩ fj dr j xi:=lW
    have hj:j<=dr.length:=lW.le
    have jM:=lW.len
    have afs:dr.length<=1000000:=afs
    have iM:=n0 j
    have j3:=dC (i:=j) (by omega)
    cbv
    refine ⟨λh=>?_,λh=>?_⟩
    ·have wP:j < dr.length:=aH
     have BG:dr.length - (j+1) < dr.length - j:=by omega
     refine (bO wP).elim λx hx=>?_
     have pb:=ur x (cB hx)
     have jc:=aqR x (cB hx)
     refine (⟨_,rfl⟩:∃s,vD ⟨⟨ins,gs,outs,dr⟩,root,rl,x⟩=s).elim λs hs=>?_
     have Ly:=cH.sig pb.1 jc (λ_=>Hu x (cB hx))
     have bS:=lW.add (s:=s) hx (by rw [<-hs];exact Ly)
     have WO:root.length<=1000000:=by omega
     have WQ:ins.length<=1000:=by omega
     cbv
     refine ⟨x,⟨iM,hx⟩,?_⟩
     cbv
     refine ⟨⟨⟨ins,gs,outs,dr⟩,root,rl,x⟩,⟨.inl ⟨by exact cj,rfl⟩,WQ,WO,pb.1⟩,?_⟩
     cbv
     refine ⟨[s],⟨by exact bp,by show (xi.length+1)*8<=_;omega,by show xi.length+1<=_;omega⟩,?_⟩
     cbv
     exact ⟨(j+1,xi++[s]),by exact aM,by exact aM,⟨⟨bS,BG⟩⟩⟩
    ·have pQ:j=dr.length:=NZ h.out hj
     have jA:=aoV (n:=⟨ins,gs,outs,dr⟩) aqQ pR cH (by show v=2+ins.length+gs.length;rw [<-hN];exact uJ) (pQ ▸ lW)
     cbv
     exact .mk' ⟨⟨ins.length,cells,xi⟩,root,rl,0⟩ ⟨by exact cj⟩ ⟨rfl,jA⟩
end Go.Proofs.Pk
