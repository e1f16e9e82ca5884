import Derived.Test.YthnhbemmlfaihaaGreatT12
import Derived.Test.YthnhbemmlfaihaaGreatT19
set_option linter.unusedVariables false
set_option linter.unusedSimpArgs false
set_option maxRecDepth 10000
set_option maxHeartbeats 64000000
namespace Go.Proofs.Pk
open Go Go.Vc
structure auf where
 n:Net
 lv:List (List Int)
structure LB where
 m:gL
 root:List Int
 rl:List (List Int)
 e:Int
@[reducible] noncomputable def QA (y:LB):SV:=.agg [.i .i64 (λ_=>y.m.n),.sl 3 rM (λ_=>y.m.cells),.sl 1 bK (λ_=>y.m.ay),.sl 1 bK (λ_=>y.root),.sl 1 jd (λ_=>y.rl),.i .i64 (λ_=>y.e)]
theorem UI (y:LB):LF (QA y):=⟨trivial,(λx=>(AM x).1),(λx=>(cP x).1),(λx=>(cP x).1),(λx=>(qa x).1),trivial,trivial⟩
@[reducible] noncomputable def aqF:fO where
 α:=auf
 args x:=[.agg (sH x.n),.sl 1 jd (λ_=>x.lv)]
 pre x:=eU x.n/\Ui x.n x.lv/\x.n.ay.length<=1000000
 β:=LB
 post x y:=jI x.n y.m/\y.e=0
 res x y:=QA y
structure FE (n:Net) (l:List Int) (T R:Int):Prop where
 ok:R=-1/\l.length<=4/\0<=T/\T < 2^(2^l.length)\/0<=R/\R<=63/\l.length=3/\T=0
theorem FE.read {n:Net} {l:List Int} (hn:eU n) (hl:l.length=3) {g:Gate} (hg:0<=g.n/\g.n < 64):FE n l 0 g.n:=⟨.inr ⟨hg.1,by omega,hl,rfl⟩⟩
theorem FE.vD {n:Net} {l:List Int} (hl:l.length<=4) {T:Int} (h:0<=T/\T < 2^(2^l.length)):FE n l T (-1):=⟨.inl ⟨rfl,hl,h⟩⟩
theorem aou {n:Net} (hn:eU n) {v:Nat} (h:nT n v=true):∃g,(0<=IntKind.i64.wrap (IntKind.i64.wrap ((v:Int) - 2) - (n.ins.length:Int))/\n.gP[(IntKind.i64.wrap (IntKind.i64.wrap ((v:Int) - 2) - (n.ins.length:Int))).toNat]?=some g)/\0<=g.n/\g.n < 64:=by
 unfold nT at h
 simp only [er,decide_eq_true_eq] at h
 obtain ⟨h1,h2⟩:=h
 split at h2
 ·rename_i g hg
  have hb:=hn.pI
  have hl:=(bY.1 hg).1
  have G:=hn.gP _ g hg
  refine ⟨g,⟨?_,?_⟩,G.n⟩
  ·rw [cD (n:=(v:Int) - 2) (by omega) (by omega),cD (by omega) (by omega)];omega
  ·rw [cD (n:=(v:Int) - 2) (by omega) (by omega),cD (by omega) (by omega)];exact hg
 ·cases h2
noncomputable def YL (n:Net) (lv:List (List Int)) (nd:List Bool) (st:Lz) (T R:Int):Vc.St :=
 ⟨[.agg [.sl 3 dk (λ_=>n.ins),.sl 5 dE (λ_=>n.gP),.sl 3 dk (λ_=>n.outs),.sl 1 bK (λ_=>n.ay)],.sl 1 jd (λ_=>lv),.ptr 0 0,.any,.ptr 1 0,.own 2,.any,.any,.any,.ptr 3 0,.i .i64 (λ_=>(st.v:Int)),.ptr 7 0,.ic .i64 0]++x4 175,
  [.fix 48 [.sl 3 dk (λ_=>n.ins),.sl 5 dE (λ_=>n.gP),.sl 3 dk (λ_=>n.outs),.sl 1 bK (λ_=>n.ay)],
   .fix 94 [.ic .i64 0,.dp,.dp,.dp,.dp,.ic .i64 0],.dyn 4 1 jc (λ_=>nd),
   .fix 94 [.i .i64 (λ_=>(n.ins.length:Int)),.own 4,.dp,.own 5,.own 6,.ic .i64 0],
   .dyn 135 3 rM (λ_=>st.cells),.dyn 3 1 bK (λ_=>st.root),.dyn 35 1 jd (λ_=>st.rl),
   .fix 135 [.dp,.i .i64 (λ_=>T),.i .i64 (λ_=>R)]]⟩
noncomputable def cBu (n m:Nat):Ctx:=fy n m [(184,Tryz.f184)] [(51,AU),(107,I1),(118,W3)] [184] [] [28]
theorem Fg (n m:Nat):CB PP (cBu n m):=fF n m ⟨fo Tryz.func184,trivial⟩ ⟨Cp,KY,aeS,trivial⟩
noncomputable def aug (n m:Nat):Ctx:=fy n m [(184,Tryz.f184)] [(51,AU),(107,I1),(118,W3)] [184]
theorem aqG (n m:Nat):CB PP (aug n m):=fF n m ⟨fo Tryz.func184,trivial⟩ ⟨Cp,KY,aeS,trivial⟩
theorem acT:eM PP 110 aqF:=by
 refine iQ (Fg 0 0) (fo Tryz.func110) (λa=>⟨tZ a.n,(λx=>(qa x).1),trivial⟩) (λa y=>UI y) ?_
 rintro ⟨⟨ins,gs,outs,dr⟩,lv⟩ hx
 obtain ⟨hn,dZ,ahF⟩:eU ⟨ins,gs,outs,dr⟩/\Ui ⟨ins,gs,outs,dr⟩ lv/\dr.length<=1000000:=hx
 have wK:2+ins.length+gs.length<=600:=hn.pI
 have aA5:lv.length=2+ins.length+gs.length:=dZ.len
 have ahG:=dZ.ok
 have W6:∀d∈dr,0<=d/\d < 2+(ins.length:Int)+gs.length:=hn.ay
 have nv:fT ⟨ins,gs,outs,dr⟩=((2+ins.length+gs.length:Nat):Int):=by unfold fT;simp only;omega
 have w6:IntKind.i64.wrap (2+(ins.length:Int))=((2+ins.length:Nat):Int):=by rw [cD (by omega) (by omega)];omega
 have tp:List.replicate (fT ⟨ins,gs,outs,dr⟩).toNat false=List.replicate (2+ins.length+gs.length) false:=by rw [nv];rfl
 have eI:0<=fT ⟨ins,gs,outs,dr⟩/\(1:Int)*fT ⟨ins,gs,outs,dr⟩<=281474976710656/\fT ⟨ins,gs,outs,dr⟩<=9223372036854775807:=by rw [nv];omega
 refine ⟨?_⟩
 cbv
 refine ⟨⟨ins,gs,outs,dr⟩,⟨by exact bQ,by show 2+ins.length+gs.length<=_;omega⟩,?_⟩
 cbv
 refine ⟨⟨eI.1,jR _,eI.2.1,eI.2.2⟩,?_⟩
 cbv
 have hN1:BE (2+ins.length+gs.length) 0 dr (List.replicate (fT ⟨ins,gs,outs,dr⟩).toNat false):=by rw [tp];exact .nil _ _
 refine Sat.cd (Fg 0 0) 3 6 [(.t 5,2)] (λx:Nat × List Bool=>[(5,.own 2),(6,.i .i64 λ_=>(x.1:Int))]) (λx=>[(2,.dyn 4 1 jc λ_=>x.2)])
  (λx=>BE (2+ins.length+gs.length) x.1 dr x.2) (λx=>dr.length - x.1) (0,List.replicate (fT ⟨ins,gs,outs,dr⟩).toNat false) (by exact ao) (by exact ao) hN1 ?_
 rintro ⟨i,nd⟩ hJ
 have hJ:BE (2+ins.length+gs.length) i dr nd:=hJ
 have hi:=hJ.le
 have auh:=hJ.len
 have h0:=n0 i
 have h1:=cj (i:=i) (by omega)
 cbv
 refine ⟨λh=>?_,λh=>?_⟩
 ·have bq:i < dr.length:=bG
  have a7:dr.length - (i+1) < dr.length - i:=by omega
  refine (bB bq).elim λd hd=>?_
  have pE:=W6 d (cb hd)
  have rf:0<=d/\d.toNat < nd.length:=by exact aU
  refine (bB rf.2).elim λb0 ei=>?_
  have bA:=hJ.add hd pE.1 (by exact aU)
  cbv
  refine ⟨d,⟨h0,hd⟩,?_⟩
  cbv
  refine ⟨⟨rf⟩,?_⟩
  cbv
  refine ⟨(b0,true),⟨ei,rfl,by exact aL⟩,?_⟩
  cbv
  exact ⟨(i+1,nd.set d.toNat true),by exact ao,by exact ao,⟨⟨bA,a7⟩⟩⟩
 ·have bS:i=dr.length:=Po h.out hi
  have hC:wZ ⟨ins,gs,outs,dr⟩ lv (2+ins.length+gs.length) nd:=wZ.of (n:=⟨ins,gs,outs,dr⟩) hJ bS
  have gS:IntKind.i64.wrap (fT ⟨ins,gs,outs,dr⟩ - 1)=((2+ins.length+gs.length:Nat):Int) - 1:=by rw [nv,cD (by omega) (by omega)]
  clear hJ auh hi h0 h1
  obtain ⟨N,hN⟩:∃N,N=2+ins.length+gs.length:=⟨_,rfl⟩
  rw [<-hN] at hC gS
  cbv
  refine ⟨⟨ins,gs,outs,dr⟩,⟨by exact bQ,by show 2+ins.length+gs.length<=_;omega⟩,?_⟩
  cbv
  refine Sat.cd (Fg 0 0) 3 6 [(.t 5,2)] (λx:Nat × List Bool=>[(5,.own 2),(7,.i .i64 λ_=>(x.1:Int) - 1)]) (λx=>[(2,.dyn 4 1 jc λ_=>x.2)])
   (λx=>x.1<=N/\wZ ⟨ins,gs,outs,dr⟩ lv x.1 x.2) (λx=>x.1) (N,nd) (by exact ao) (by exact ao) ⟨cR _,hC⟩ ?_
  rintro ⟨k,tL⟩ ⟨hk,DA⟩
  have hk:k<=N:=hk
  have DA:wZ ⟨ins,gs,outs,dr⟩ lv k tL:=DA
  cbv
  refine ⟨λh=>?_,λh=>?_⟩
  ·have hkv:2+ins.length<=k - 1/\1<=k:=by have h':cU (IntKind.i64.wrap (2+(ins.length:Int))) ((k:Int) - 1)=true:=h.out;rw [w6] at h';simp only [cU,decide_eq_true_eq] at h';exact aU
   refine (⟨k - 1,by omega⟩:∃v,k=v+1).elim λv hv=>?_
   subst hv
   have jV:2+ins.length<=v:=by omega
   have DB:((v+1:Nat):Int) - 1=(v:Int):=by omega
   have hvd:IntKind.i64.wrap ((v:Int) - 1)=(v:Int) - 1:=by rw [cD (by omega) (by omega)]
   have iq:0<=(v:Int)/\((v:Int)).toNat < tL.length:=by have:=DA.len;simp only at this;omega
   have yA:v < lv.length:=by omega
   refine (bB yA).elim λl hl=>?_
   have zo:ll ⟨ins,gs,outs,dr⟩ v l:=ahG v l jV hl
   have Lw:v < v+1:=N4 v
   cbv
   refine Sat.cd (Fg 0 0) 3 6 [(.t 5,2)] (λx:Nat × List Bool=>[(5,.own 2),(7,.i .i64 λ_=>(v:Int)),(8,.i .i64 λ_=>(x.1:Int))]) (λx=>[(2,.dyn 4 1 jc λ_=>x.2)])
    (λx=>Dy ⟨ins,gs,outs,dr⟩ lv v x.1 l x.2) (λx=>l.length - x.1) (0,tL) (by exact ao) (by exact ao) (DA.start l) ?_
   rintro ⟨j,yB⟩ hJ
   have hJ:Dy ⟨ins,gs,outs,dr⟩ lv v j l yB:=hJ
   have eE:=hJ.le
   have Rr:=zo.len
   have yj:yB.length=2+ins.length+gs.length:=hJ.c.len
   have iO:=n0 j
   have vF:=cj (i:=j) (by omega)
   have I2:0<=(v:Int)/\((v:Int)).toNat < yB.length:=by omega
   refine (bB I2.2).elim λb1 jL=>?_
   have QB:yB[v]?=some b1:=by simpa using jL
   have mK:0<=(v:Int)/\lv[((v:Int)).toNat]?=some l:=⟨n0 v,by simpa using hl⟩
   cbv
   refine ⟨⟨I2⟩,?_⟩
   cbv
   refine ⟨b1,⟨jL,rfl⟩,?_⟩
   cbv
   have hC3:wZ ⟨ins,gs,outs,dr⟩ lv v yB/\(yB[v]?=some false\/j=l.length)->(v<=N/\wZ ⟨ins,gs,outs,dr⟩ lv v yB)/\v < v+1:=λh=>⟨⟨by omega,h.1⟩,Lw⟩
   refine ⟨λh=>?_,λh=>?_⟩
   ·have w7:b1=true:=h.out
    cbv
    refine ⟨l,⟨mK⟩,?_⟩
    cbv
    refine ⟨λh=>?_,λh=>?_⟩
    ·have vo:j < l.length:=bG
     have lz:l.length - (j+1) < l.length - j:=by omega
     refine (bB vo).elim λx hx=>?_
     have gW:=zo.mem x (cb hx)
     have kZ:0<=x/\x.toNat < yB.length:=by omega
     refine (bB kZ.2).elim λb2 jq=>?_
     have bA:=hJ.add zo hx (by omega)
     cbv
     refine ⟨l,⟨mK⟩,?_⟩
     cbv
     refine ⟨x,⟨iO,hx⟩,?_⟩
     cbv
     refine ⟨⟨kZ⟩,?_⟩
     cbv
     refine ⟨(b2,true),⟨jq,rfl,by exact aL⟩,?_⟩
     cbv
     exact ⟨(j+1,yB.set x.toNat true),by exact ao,by exact ao,⟨⟨bA,lz⟩⟩⟩
    ·have oq:j=l.length:=Po h.out eE
     have rO:=hJ.out hl (.inr oq)
     cbv
     exact ⟨(v,yB),by exact ao,by exact ao,⟨⟨⟨by omega,rO⟩,Lw⟩⟩⟩
   ·have w7:b1=false:=h.out
    have rO:=hJ.out hl (.inl (by rw [QB,w7]))
    cbv
    exact ⟨(v,yB),by exact ao,by exact ao,⟨⟨⟨by omega,rO⟩,Lw⟩⟩⟩
  ·have db:k<=2+ins.length:=by have h':cU (IntKind.i64.wrap (2+(ins.length:Int))) ((k:Int) - 1)=false:=h.out;rw [w6] at h';simp only [cU,decide_eq_false_iff_not] at h';exact aU
   have ql:∀(u:Nat) (l:List Int),2+ins.length<=u->tL[u]?=some true->lv[u]?=some l->∀x∈l,Mk tL x:=λu l h1 h2 h3=>DA.cl u l (by omega) h1 h2 h3
   have Rh:∀d∈dr,Mk tL d:=DA.dr
   have yj:tL.length=2+ins.length+gs.length:=DA.len
   clear hC DA
   cbv
   refine Sat.iH 3 1 135 3 adN AM rfl rfl ?_
   refine Sat.iH 3 3 3 1 n8 cP rfl rfl ?_
   refine Sat.iH 3 4 35 1 UF qa rfl rfl ?_
   refine Sat.cd (Fg 0 0) 7 6 [(.c 3 1,4),(.c 3 3,5),(.c 3 4,6)] (λx:Lz=>[(9,.ptr 3 0),(10,.i .i64 λ_=>(x.v:Int))]) (λx=>[(3,.fix 94 [.i .i64 (λ_=>(ins.length:Int)),.own 4,.dp,.own 5,.own 6,.ic .i64 0]),(4,.dyn 135 3 rM λ_=>x.cells),(5,.dyn 3 1 bK λ_=>x.root),(6,.dyn 35 1 jd λ_=>x.rl)])
    (λx=>wL ⟨ins,gs,outs,dr⟩ tL x) (λx=>N - x.v) ⟨2+ins.length,[],[],[]⟩ (by exact ao) (by exact ao) (.nil _ _) ?_
   rintro st cI
   have cI:wL ⟨ins,gs,outs,dr⟩ tL st:=cI
   obtain ⟨v,cells,root,rl⟩:=st
   have fa:2+ins.length<=v:=cI.lo
   have gF:v<=2+ins.length+gs.length:=cI.hi
   have oP:root.length+(2+ins.length)<=v:=cI.dK
   have aA6:cells.length=root.length:=cI.cl
   have aA7:rl.length=root.length:=cI.rl
   have iq:=n0 v
   have qu:=cj (i:=v) (by omega)
   cbv
   refine ⟨⟨ins,gs,outs,dr⟩,⟨by exact bQ,by show 2+ins.length+gs.length<=_;omega⟩,?_⟩
   cbv
   refine ⟨λh=>?_,λh=>?_⟩
   ·have rY:v < N:=by have h':aS (v:Int) (fT ⟨ins,gs,outs,dr⟩)=true:=h.out;rw [nv] at h';simp only [aS,decide_eq_true_eq] at h';exact aU
    have C0:N - (v+1) < N - v:=by omega
    have DB:0<=(v:Int)/\((v:Int)).toNat < tL.length:=⟨iq,by rw [yj];exact aU⟩
    refine (bB DB.2).elim λb1 jL=>?_
    have QB:tL[v]?=some b1:=by simpa using jL
    have ahH:v < 2+ins.length+gs.length:=by omega
    have yA:v < lv.length:=by omega
    refine (bB yA).elim λl hl=>?_
    have mK:0<=(v:Int)/\lv[((v:Int)).toNat]?=some l:=⟨n0 v,by simpa using hl⟩
    have te:0<=(v:Int)/\(v:Int) < fT ⟨ins,gs,outs,dr⟩:=⟨iq,by rw [nv];exact aU⟩
    have zo:ll ⟨ins,gs,outs,dr⟩ v l:=ahG v l fa hl
    cbv
    refine ⟨⟨DB⟩,?_⟩
    cbv
    refine ⟨b1,⟨jL,rfl⟩,?_⟩
    cbv
    refine ⟨λh=>?_,λh=>?_⟩
    ·have hbf:b1=false:=by have h':(!b1)=true:=h.out;simpa using h'
     have bA:=cI.skip ahH (by rw [QB,hbf])
     cbv
     exact ⟨⟨v+1,cells,root,rl⟩,by exact ao,by exact ao,⟨⟨bA,C0⟩⟩⟩
    ·have w7:b1=true:=by have h':(!b1)=false:=h.out;simpa using h'
     have aui:∀x∈l,Mk tL x:=ql v l fa (by rw [QB,w7]) hl
     cbv
     refine ⟨⟨⟨ins,gs,outs,dr⟩,v⟩,⟨by exact bQ,hn,te⟩,?_⟩
     cbv
     apply Co (λc k=>∀T R:Int,FE ⟨ins,gs,outs,dr⟩ l T R->Sat [] false PP c (YL ⟨ins,gs,outs,dr⟩ lv tL ⟨v,cells,root,rl⟩ T R) k)
     ·intro tail
      refine ⟨λh=>?_,λh=>?_⟩
      ·have mS:nT ⟨ins,gs,outs,dr⟩ v=true:=h.out
       have hg:=aou hn mS
       refine hg.elim λg hg=>?_
       have YM:=FE.read hn (zo.read mS) hg.2
       have wS:=hg.1
       cbv
       refine ⟨g,⟨wS⟩,?_⟩
       cbv
       exact kQ 8 (YL ⟨ins,gs,outs,dr⟩ lv tL ⟨v,cells,root,rl⟩ 0 g.n) (by exact ao) (by exact ao) (tail 0 g.n YM)
      ·cbv
       refine ⟨l,⟨mK⟩,?_⟩
       cbv
       refine bV.rel aor ⟨⟨ins,gs,outs,dr⟩,⟨v,l⟩⟩ (by exact aL) ⟨hn,by show l.length<=_;have:=zo.len;omega⟩ λt ht=>?_
       have ht:Vj ⟨v,l⟩ t:=ht.out
       have YM:=FE.vD (n:=⟨ins,gs,outs,dr⟩) zo.len (ht.ok zo.len)
       cbv
       exact kQ 8 (YL ⟨ins,gs,outs,dr⟩ lv tL ⟨v,cells,root,rl⟩ t.t (-1)) (by exact ao) (by exact ao) (tail t.t (-1) YM)
     ·intro T R hTR
      refine Sat.iH 7 0 3 1 n8 cP rfl rfl ?_
      refine Sat.cd (Fg 0 0) 9 12 [(.c 7 0,8)] (λx:Nat × List Int=>[(12,.i .i64 λ_=>(x.1:Int))]) (λx=>[(7,.fix 135 [.own 8,.i .i64 (λ_=>T),.i .i64 (λ_=>R)]),(8,.dyn 3 1 bK λ_=>x.2)])
       (λx=>x.1<=l.length/\zG ⟨ins,gs,outs,dr⟩ root.length x.1 x.2) (λx=>l.length - x.1) (0,[]) (by exact ao) (by exact ao) ⟨cL _,.nil _ _⟩ ?_
      rintro ⟨j,xi⟩ ⟨hj,kZ⟩
      have hj:j<=l.length:=hj
      have kZ:zG ⟨ins,gs,outs,dr⟩ root.length j xi:=kZ
      have Rr:=zo.len
      have qs:=kZ.len
      have iO:=n0 j
      have vF:=cj (i:=j) (by omega)
      cbv
      refine ⟨l,⟨mK⟩,?_⟩
      cbv
      refine ⟨λh=>?_,λh=>?_⟩
      ·have vo:j < l.length:=bG
       have lz:l.length - (j+1) < l.length - j:=by omega
       refine (bB vo).elim λx hx=>?_
       have gW:=zo.mem x (cb hx)
       refine (⟨_,rfl⟩:∃s,ur ⟨⟨ins,gs,outs,dr⟩,root,rl,x⟩=s).elim λs hs=>?_
       have uJ:=aeT (lv:=lv) cI gW.1 gW.2 (λ_=>aui x (cb hx))
       have bA:=kZ.add (s:=s) (by rw [<-hs];exact uJ)
       have Gd:root.length<=1000000:=by omega
       have gY:ins.length<=1000:=by omega
       cbv
       refine ⟨l,⟨mK⟩,?_⟩
       cbv
       refine ⟨x,⟨iO,hx⟩,?_⟩
       cbv
       refine ⟨⟨⟨ins,gs,outs,dr⟩,root,rl,x⟩,⟨.inl ⟨by exact aL,rfl⟩,gY,Gd,gW.1⟩,?_⟩
       cbv
       refine ⟨[s],⟨by exact bQ,by show (xi.length+1)*8<=_;omega,by show xi.length+1<=_;omega⟩,?_⟩
       cbv
       exact ⟨(j+1,xi++[s]),by exact ao,by exact ao,⟨⟨⟨vo,bA⟩,lz⟩⟩⟩
      ·have oq:j=l.length:=Po h.out hj
       have td:KG (2+(ins.length:Int)+root.length) ⟨xi,T,R⟩:=⟨kZ.ok,by simp only;rw [qs,oq];exact hTR.ok⟩
       have bA:=cI.add ahH td l
       cbv
       refine ⟨[(v:Int)],⟨by exact bQ,by show (root.length+1)*8<=_;omega,by show root.length+1<=_;omega⟩,?_⟩
       cbv
       refine ⟨l,⟨mK⟩,?_⟩
       cbv
       refine ⟨[l],⟨by exact bQ,by show (rl.length+1)*24<=_;omega,by show rl.length+1<=_;omega⟩,?_⟩
       cbv
       refine Sat.freeze 8 rfl rfl ?_
       refine Sat.uH (aqG 0 0) ?_
       cbv
       refine ⟨[⟨xi,T,R⟩],⟨by exact bQ,by show (cells.length+1)*40<=_;omega,by show cells.length+1<=_;omega⟩,?_⟩
       cbv
       exact ⟨⟨v+1,cells++[⟨xi,T,R⟩],root++[(v:Int)],rl++[l]⟩,by exact ao,by exact ao,⟨⟨bA,C0⟩⟩⟩
   ·have rY:v=N:=by have h':aS (v:Int) (fT ⟨ins,gs,outs,dr⟩)=false:=h.out;rw [nv] at h';simp only [aS,decide_eq_false_iff_not] at h';exact aU
    have ase:∀d∈dr,d < (v:Int):=λd hd=>by have:=W6 d hd;exact aU
    cbv
    refine Sat.iH 3 2 3 1 n8 cP rfl rfl ?_
    refine Sat.cd (Fg 0 0) 8 10 [(.c 3 2,7)] (λx:Nat × List Int=>[(13,.i .i64 λ_=>(x.1:Int))]) (λx=>[(3,.fix 94 [.i .i64 (λ_=>(ins.length:Int)),.own 4,.own 7,.own 5,.own 6,.ic .i64 0]),(7,.dyn 3 1 bK λ_=>x.2)])
     (λx=>x.1<=dr.length/\zG ⟨ins,gs,outs,dr⟩ root.length x.1 x.2) (λx=>dr.length - x.1) (0,[]) (by exact ao) (by exact ao) ⟨cL _,.nil _ _⟩ ?_
    rintro ⟨j,xi⟩ ⟨hj,kZ⟩
    have hj:j<=dr.length:=hj
    have kZ:zG ⟨ins,gs,outs,dr⟩ root.length j xi:=kZ
    have qs:=kZ.len
    have ahF:dr.length<=1000000:=ahF
    have iO:=n0 j
    have vF:=cj (i:=j) (by omega)
    cbv
    refine ⟨λh=>?_,λh=>?_⟩
    ·have vo:j < dr.length:=bG
     have lz:dr.length - (j+1) < dr.length - j:=by omega
     refine (bB vo).elim λx hx=>?_
     have gW:=W6 x (cb hx)
     have oR:=ase x (cb hx)
     refine (⟨_,rfl⟩:∃s,ur ⟨⟨ins,gs,outs,dr⟩,root,rl,x⟩=s).elim λs hs=>?_
     have uJ:=aeT (lv:=lv) cI gW.1 oR (λ_=>Rh x (cb hx))
     have bA:=kZ.add (s:=s) (by rw [<-hs];exact uJ)
     have Gd:root.length<=1000000:=by omega
     have gY:ins.length<=1000:=by omega
     cbv
     refine ⟨x,⟨iO,hx⟩,?_⟩
     cbv
     refine ⟨⟨⟨ins,gs,outs,dr⟩,root,rl,x⟩,⟨.inl ⟨by exact aL,rfl⟩,gY,Gd,gW.1⟩,?_⟩
     cbv
     refine ⟨[s],⟨by exact bQ,by show (xi.length+1)*8<=_;omega,by show xi.length+1<=_;omega⟩,?_⟩
     cbv
     exact ⟨(j+1,xi++[s]),by exact ao,by exact ao,⟨⟨⟨vo,bA⟩,lz⟩⟩⟩
    ·have oq:j=dr.length:=Po h.out hj
     have rO:=jI.of hn cI (oq ▸ kZ)
     cbv
     exact .mk' ⟨⟨ins.length,cells,xi⟩,root,rl,0⟩ ⟨by exact aL⟩ ⟨rO,rfl⟩
end Go.Proofs.Pk
