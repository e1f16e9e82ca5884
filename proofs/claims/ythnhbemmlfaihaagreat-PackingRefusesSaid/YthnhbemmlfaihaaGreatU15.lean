import Derived.Test.YthnhbemmlfaihaaGreatU7
import Derived.Test.YthnhbemmlfaihaaGreatU14
set_option linter.unusedVariables false
set_option linter.unusedSimpArgs false
set_option maxRecDepth 10000
set_option maxHeartbeats 64000000
namespace Go.Proofs.Pk
open Go Go.Vc
structure atV where
 n:Net
 lv:List (List Int)
structure Lo where
 m:gD
 root:List Int
 rl:List (List Int)
 e:Int
@[reducible] noncomputable def QB (y:Lo):SV:=.agg [.i .i64 (λ_=>y.m.n),.sl 3 rL (λ_=>y.m.cells),.sl 1 bM (λ_=>y.m.ay),.sl 1 bM (λ_=>y.root),.sl 1 jc (λ_=>y.rl),.i .i64 (λ_=>y.e)]
theorem Ux (y:Lo):LF (QB y):=⟨trivial,(λx=>(Aw x).1),(λx=>(cQ x).1),(λx=>(cQ x).1),(λx=>(pW x).1),trivial,trivial⟩
@[reducible] noncomputable def aql:fK where
 α:=atV
 args x:=[.agg (sB x.n),.sl 1 jc (λ_=>x.lv)]
 pre x:=eX x.n/\Uc x.n x.lv/\x.n.ay.length<=1000000
 β:=Lo
 post x y:=jG x.n y.m/\y.e=0
 res x y:=QB y
structure Fg (n:Net) (l:List Int) (T R:Int):Prop where
 ok:R=-1/\l.length<=4/\0<=T/\T < 2^(2^l.length)\/0<=R/\R<=63/\l.length=3/\T=0
theorem Fg.read {n:Net} {l:List Int} (hn:eX n) (hl:l.length=3) {g:Gate} (hg:0<=g.n/\g.n < 64):Fg n l 0 g.n:=⟨.inr ⟨hg.1,by omega,hl,rfl⟩⟩
theorem Fg.vw {n:Net} {l:List Int} (hl:l.length<=4) {T:Int} (h:0<=T/\T < 2^(2^l.length)):Fg n l T (-1):=⟨.inl ⟨rfl,hl,h⟩⟩
theorem aod {n:Net} (hn:eX n) {v:Nat} (h:nP n v=true):∃g,(0<=IntKind.i64.wrap (IntKind.i64.wrap ((v:Int) - 2) - (n.ins.length:Int))/\n.gM[(IntKind.i64.wrap (IntKind.i64.wrap ((v:Int) - 2) - (n.ins.length:Int))).toNat]?=some g)/\0<=g.n/\g.n < 64:=by
 unfold nP at h
 simp only [eh,decide_eq_true_eq] at h
 obtain ⟨h1,h2⟩:=h
 split at h2
 ·rename_i g hg
  have hb:=hn.pF
  have hl:=(bW.1 hg).1
  have G:=hn.gM _ g hg
  refine ⟨g,⟨?_,?_⟩,G.n⟩
  ·rw [cu (n:=(v:Int) - 2) (by omega) (by omega),cu (by omega) (by omega)];omega
  ·rw [cu (n:=(v:Int) - 2) (by omega) (by omega),cu (by omega) (by omega)];exact hg
 ·cases h2
noncomputable def YC (n:Net) (lv:List (List Int)) (nd:List Bool) (st:Ln) (T R:Int):Vc.St :=
 ⟨[.agg [.sl 3 dm (λ_=>n.ins),.sl 5 dD (λ_=>n.gM),.sl 3 dm (λ_=>n.outs),.sl 1 bM (λ_=>n.ay)],.sl 1 jc (λ_=>lv),.ptr 0 0,.any,.ptr 1 0,.own 2,.any,.any,.any,.ptr 3 0,.i .i64 (λ_=>(st.v:Int)),.ptr 7 0,.ic .i64 0]++xS 175,
  [.fix 48 [.sl 3 dm (λ_=>n.ins),.sl 5 dD (λ_=>n.gM),.sl 3 dm (λ_=>n.outs),.sl 1 bM (λ_=>n.ay)],
   .fix 94 [.ic .i64 0,.dg,.dg,.dg,.dg,.ic .i64 0],.dyn 4 1 jb (λ_=>nd),
   .fix 94 [.i .i64 (λ_=>(n.ins.length:Int)),.own 4,.dg,.own 5,.own 6,.ic .i64 0],
   .dyn 135 3 rL (λ_=>st.cells),.dyn 3 1 bM (λ_=>st.root),.dyn 35 1 jc (λ_=>st.rl),
   .fix 135 [.dg,.i .i64 (λ_=>T),.i .i64 (λ_=>R)]]⟩
noncomputable def cBu (n m:Nat):Ctx:=fB n m [(184,Tryz.f184)] [(51,AF),(107,IJ),(118,WZ)] [184] [] [28]
theorem ER (n m:Nat):CB PP (cBu n m):=fG n m ⟨fo Tryz.func184,trivial⟩ ⟨B9,KI,aeI,trivial⟩
noncomputable def atW (n m:Nat):Ctx:=fB n m [(184,Tryz.f184)] [(51,AF),(107,IJ),(118,WZ)] [184]
theorem aqm (n m:Nat):CB PP (atW n m):=fG n m ⟨fo Tryz.func184,trivial⟩ ⟨B9,KI,aeI,trivial⟩
theorem acE:eG PP 110 aql:=by
 refine iL (ER 0 0) (fo Tryz.func110) (λa=>⟨tQ a.n,(λx=>(pW x).1),trivial⟩) (λa y=>Ux y) ?_
 rintro ⟨⟨ins,gs,outs,dr⟩,lv⟩ hx
 obtain ⟨hn,dX,ahv⟩:eX ⟨ins,gs,outs,dr⟩/\Uc ⟨ins,gs,outs,dr⟩ lv/\dr.length<=1000000:=hx
 have wH:2+ins.length+gs.length<=600:=hn.pF
 have aBl:lv.length=2+ins.length+gs.length:=dX.len
 have ahw:=dX.ok
 have W3:∀d∈dr,0<=d/\d < 2+(ins.length:Int)+gs.length:=hn.ay
 have nv:fR ⟨ins,gs,outs,dr⟩=((2+ins.length+gs.length:Nat):Int):=by unfold fR;simp only;omega
 have Bl:IntKind.i64.wrap (2+(ins.length:Int))=((2+ins.length:Nat):Int):=by rw [cu (by omega) (by omega)];omega
 have ta:List.replicate (fR ⟨ins,gs,outs,dr⟩).toNat false=List.replicate (2+ins.length+gs.length) false:=by rw [nv];rfl
 have e9:0<=fR ⟨ins,gs,outs,dr⟩/\(1:Int)*fR ⟨ins,gs,outs,dr⟩<=281474976710656/\fR ⟨ins,gs,outs,dr⟩<=9223372036854775807:=by rw [nv];omega
 refine ⟨?_⟩
 cbv
 refine ⟨⟨ins,gs,outs,dr⟩,⟨by exact bQ,by show 2+ins.length+gs.length<=_;omega⟩,?_⟩
 cbv
 refine ⟨⟨e9.1,j5 _,e9.2.1,e9.2.2⟩,?_⟩
 cbv
 have hN1:Bk (2+ins.length+gs.length) 0 dr (List.replicate (fR ⟨ins,gs,outs,dr⟩).toNat false):=by rw [ta];exact .nil _ _
 refine Sat.cf (ER 0 0) 3 6 [(.t 5,2)] (λx:Nat × List Bool=>[(5,.own 2),(6,.i .i64 λ_=>(x.1:Int))]) (λx=>[(2,.dyn 4 1 jb λ_=>x.2)])
  (λx=>Bk (2+ins.length+gs.length) x.1 dr x.2) (λx=>dr.length - x.1) (0,List.replicate (fR ⟨ins,gs,outs,dr⟩).toNat false) (by exact ao) (by exact ao) hN1 ?_
 rintro ⟨i,nd⟩ hJ
 have hJ:Bk (2+ins.length+gs.length) i dr nd:=hJ
 have hi:=hJ.le
 have atX:=hJ.len
 have h0:=n0 i
 have h1:=cq (i:=i) (by omega)
 cbv
 refine ⟨λh=>?_,λh=>?_⟩
 ·have bt:i < dr.length:=bI
  have bh:dr.length - (i+1) < dr.length - i:=by omega
  refine (bD bt).elim λd hd=>?_
  have pA:=W3 d (cb hd)
  have q9:0<=d/\d.toNat < nd.length:=by exact aT
  refine (bD q9.2).elim λb0 ef=>?_
  have bB:=hJ.add hd pA.1 (by exact aT)
  cbv
  refine ⟨d,⟨h0,hd⟩,?_⟩
  cbv
  refine ⟨⟨q9⟩,?_⟩
  cbv
  refine ⟨(b0,true),⟨ef,rfl,by exact aK⟩,?_⟩
  cbv
  exact ⟨(i+1,nd.set d.toNat true),by exact ao,by exact ao,⟨⟨bB,bh⟩⟩⟩
 ·have b9:i=dr.length:=Pp h.out hi
  have hC:wW ⟨ins,gs,outs,dr⟩ lv (2+ins.length+gs.length) nd:=wW.of (n:=⟨ins,gs,outs,dr⟩) hJ b9
  have gA:IntKind.i64.wrap (fR ⟨ins,gs,outs,dr⟩ - 1)=((2+ins.length+gs.length:Nat):Int) - 1:=by rw [nv,cu (by omega) (by omega)]
  clear hJ atX hi h0 h1
  obtain ⟨N,hN⟩:∃N,N=2+ins.length+gs.length:=⟨_,rfl⟩
  rw [<-hN] at hC gA
  cbv
  refine ⟨⟨ins,gs,outs,dr⟩,⟨by exact bQ,by show 2+ins.length+gs.length<=_;omega⟩,?_⟩
  cbv
  refine Sat.cf (ER 0 0) 3 6 [(.t 5,2)] (λx:Nat × List Bool=>[(5,.own 2),(7,.i .i64 λ_=>(x.1:Int) - 1)]) (λx=>[(2,.dyn 4 1 jb λ_=>x.2)])
   (λx=>x.1<=N/\wW ⟨ins,gs,outs,dr⟩ lv x.1 x.2) (λx=>x.1) (N,nd) (by exact ao) (by exact ao) ⟨cR _,hC⟩ ?_
  rintro ⟨k,tC⟩ ⟨hk,Dl⟩
  have hk:k<=N:=hk
  have Dl:wW ⟨ins,gs,outs,dr⟩ lv k tC:=Dl
  cbv
  refine ⟨λh=>?_,λh=>?_⟩
  ·have hkv:2+ins.length<=k - 1/\1<=k:=by have h':cV (IntKind.i64.wrap (2+(ins.length:Int))) ((k:Int) - 1)=true:=h.out;rw [Bl] at h';simp only [cV,decide_eq_true_eq] at h';exact aT
   refine (⟨k - 1,by omega⟩:∃v,k=v+1).elim λv hv=>?_
   subst hv
   have ka:2+ins.length<=v:=by omega
   have Mm:((v+1:Nat):Int) - 1=(v:Int):=by omega
   have hvd:IntKind.i64.wrap ((v:Int) - 1)=(v:Int) - 1:=by rw [cu (by omega) (by omega)]
   have ik:0<=(v:Int)/\((v:Int)).toNat < tC.length:=by have:=Dl.len;simp only at this;omega
   have yo:v < lv.length:=by omega
   refine (bD yo).elim λl hl=>?_
   have y9:la ⟨ins,gs,outs,dr⟩ v l:=ahw v l ka hl
   have Lk:v < v+1:=N6 v
   cbv
   refine Sat.cf (ER 0 0) 3 6 [(.t 5,2)] (λx:Nat × List Bool=>[(5,.own 2),(7,.i .i64 λ_=>(v:Int)),(8,.i .i64 λ_=>(x.1:Int))]) (λx=>[(2,.dyn 4 1 jb λ_=>x.2)])
    (λx=>Dj ⟨ins,gs,outs,dr⟩ lv v x.1 l x.2) (λx=>l.length - x.1) (0,tC) (by exact ao) (by exact ao) (Dl.start l) ?_
   rintro ⟨j,yp⟩ hJ
   have hJ:Dj ⟨ins,gs,outs,dr⟩ lv v j l yp:=hJ
   have er:=hJ.le
   have Rs:=y9.len
   have x8:yp.length=2+ins.length+gs.length:=hJ.c.len
   have iN:=n0 j
   have vz:=cq (i:=j) (by omega)
   have IK:0<=(v:Int)/\((v:Int)).toNat < yp.length:=by omega
   refine (bD IK.2).elim λb1 jx=>?_
   have QC:yp[v]?=some b1:=by simpa using jx
   have mH:0<=(v:Int)/\lv[((v:Int)).toNat]?=some l:=⟨n0 v,by simpa using hl⟩
   cbv
   refine ⟨⟨IK⟩,?_⟩
   cbv
   refine ⟨b1,⟨jx,rfl⟩,?_⟩
   cbv
   have hC3:wW ⟨ins,gs,outs,dr⟩ lv v yp/\(yp[v]?=some false\/j=l.length)->(v<=N/\wW ⟨ins,gs,outs,dr⟩ lv v yp)/\v < v+1:=λh=>⟨⟨by omega,h.1⟩,Lk⟩
   refine ⟨λh=>?_,λh=>?_⟩
   ·have wX:b1=true:=h.out
    cbv
    refine ⟨l,⟨mH⟩,?_⟩
    cbv
    refine ⟨λh=>?_,λh=>?_⟩
    ·have ve:j < l.length:=bI
     have ll:l.length - (j+1) < l.length - j:=by omega
     refine (bD ve).elim λx hx=>?_
     have iI:=y9.mem x (cb hx)
     have ku:0<=x/\x.toNat < yp.length:=by omega
     refine (bD ku.2).elim λb2 jr=>?_
     have bB:=hJ.add y9 hx (by omega)
     cbv
     refine ⟨l,⟨mH⟩,?_⟩
     cbv
     refine ⟨x,⟨iN,hx⟩,?_⟩
     cbv
     refine ⟨⟨ku⟩,?_⟩
     cbv
     refine ⟨(b2,true),⟨jr,rfl,by exact aK⟩,?_⟩
     cbv
     exact ⟨(j+1,yp.set x.toNat true),by exact ao,by exact ao,⟨⟨bB,ll⟩⟩⟩
    ·have oe:j=l.length:=Pp h.out er
     have rN:=hJ.out hl (.inr oe)
     cbv
     exact ⟨(v,yp),by exact ao,by exact ao,⟨⟨⟨by omega,rN⟩,Lk⟩⟩⟩
   ·have wX:b1=false:=h.out
    have rN:=hJ.out hl (.inl (by rw [QC,wX]))
    cbv
    exact ⟨(v,yp),by exact ao,by exact ao,⟨⟨⟨by omega,rN⟩,Lk⟩⟩⟩
  ·have dq:k<=2+ins.length:=by have h':cV (IntKind.i64.wrap (2+(ins.length:Int))) ((k:Int) - 1)=false:=h.out;rw [Bl] at h';simp only [cV,decide_eq_false_iff_not] at h';exact aT
   have qc:∀(u:Nat) (l:List Int),2+ins.length<=u->tC[u]?=some true->lv[u]?=some l->∀x∈l,Mk tC x:=λu l h1 h2 h3=>Dl.cl u l (by omega) h1 h2 h3
   have Rk:∀d∈dr,Mk tC d:=Dl.dr
   have x8:tC.length=2+ins.length+gs.length:=Dl.len
   clear hC Dl
   cbv
   refine Sat.iK 3 1 135 3 adC Aw rfl rfl ?_
   refine Sat.iK 3 3 3 1 oC cQ rfl rfl ?_
   refine Sat.iK 3 4 35 1 Uv pW rfl rfl ?_
   refine Sat.cf (ER 0 0) 7 6 [(.c 3 1,4),(.c 3 3,5),(.c 3 4,6)] (λx:Ln=>[(9,.ptr 3 0),(10,.i .i64 λ_=>(x.v:Int))]) (λx=>[(3,.fix 94 [.i .i64 (λ_=>(ins.length:Int)),.own 4,.dg,.own 5,.own 6,.ic .i64 0]),(4,.dyn 135 3 rL λ_=>x.cells),(5,.dyn 3 1 bM λ_=>x.root),(6,.dyn 35 1 jc λ_=>x.rl)])
    (λx=>wI ⟨ins,gs,outs,dr⟩ tC x) (λx=>N - x.v) ⟨2+ins.length,[],[],[]⟩ (by exact ao) (by exact ao) (.nil _ _) ?_
   rintro st cJ
   have cJ:wI ⟨ins,gs,outs,dr⟩ tC st:=cJ
   obtain ⟨v,cells,root,rl⟩:=st
   have fe:2+ins.length<=v:=cJ.lo
   have gH:v<=2+ins.length+gs.length:=cJ.hi
   have oP:root.length+(2+ins.length)<=v:=cJ.dK
   have aBm:cells.length=root.length:=cJ.cl
   have aBn:rl.length=root.length:=cJ.rl
   have ik:=n0 v
   have qm:=cq (i:=v) (by omega)
   cbv
   refine ⟨⟨ins,gs,outs,dr⟩,⟨by exact bQ,by show 2+ins.length+gs.length<=_;omega⟩,?_⟩
   cbv
   refine ⟨λh=>?_,λh=>?_⟩
   ·have rW:v < N:=by have h':aU (v:Int) (fR ⟨ins,gs,outs,dr⟩)=true:=h.out;rw [nv] at h';simp only [aU,decide_eq_true_eq] at h';exact aT
    have CL:N - (v+1) < N - v:=by omega
    have Mm:0<=(v:Int)/\((v:Int)).toNat < tC.length:=⟨ik,by rw [x8];exact aT⟩
    refine (bD Mm.2).elim λb1 jx=>?_
    have QC:tC[v]?=some b1:=by simpa using jx
    have ahx:v < 2+ins.length+gs.length:=by omega
    have yo:v < lv.length:=by omega
    refine (bD yo).elim λl hl=>?_
    have mH:0<=(v:Int)/\lv[((v:Int)).toNat]?=some l:=⟨n0 v,by simpa using hl⟩
    have s6:0<=(v:Int)/\(v:Int) < fR ⟨ins,gs,outs,dr⟩:=⟨ik,by rw [nv];exact aT⟩
    have y9:la ⟨ins,gs,outs,dr⟩ v l:=ahw v l fe hl
    cbv
    refine ⟨⟨Mm⟩,?_⟩
    cbv
    refine ⟨b1,⟨jx,rfl⟩,?_⟩
    cbv
    refine ⟨λh=>?_,λh=>?_⟩
    ·have hbf:b1=false:=by have h':(!b1)=true:=h.out;simpa using h'
     have bB:=cJ.skip ahx (by rw [QC,hbf])
     cbv
     exact ⟨⟨v+1,cells,root,rl⟩,by exact ao,by exact ao,⟨⟨bB,CL⟩⟩⟩
    ·have wX:b1=true:=by have h':(!b1)=false:=h.out;simpa using h'
     have atY:∀x∈l,Mk tC x:=qc v l fe (by rw [QC,wX]) hl
     cbv
     refine ⟨⟨⟨ins,gs,outs,dr⟩,v⟩,⟨by exact bQ,hn,s6⟩,?_⟩
     cbv
     apply B8 (λc k=>∀T R:Int,Fg ⟨ins,gs,outs,dr⟩ l T R->Sat [] false PP c (YC ⟨ins,gs,outs,dr⟩ lv tC ⟨v,cells,root,rl⟩ T R) k)
     ·intro tail
      refine ⟨λh=>?_,λh=>?_⟩
      ·have mP:nP ⟨ins,gs,outs,dr⟩ v=true:=h.out
       have hg:=aod hn mP
       refine hg.elim λg hg=>?_
       have YD:=Fg.read hn (y9.read mP) hg.2
       have wP:=hg.1
       cbv
       refine ⟨g,⟨wP⟩,?_⟩
       cbv
       exact kM 8 (YC ⟨ins,gs,outs,dr⟩ lv tC ⟨v,cells,root,rl⟩ 0 g.n) (by exact ao) (by exact ao) (tail 0 g.n YD)
      ·cbv
       refine ⟨l,⟨mH⟩,?_⟩
       cbv
       refine bV.rel aoa ⟨⟨ins,gs,outs,dr⟩,⟨v,l⟩⟩ (by exact aK) ⟨hn,by show l.length<=_;have:=y9.len;omega⟩ λt ht=>?_
       have ht:U7 ⟨v,l⟩ t:=ht.out
       have YD:=Fg.vw (n:=⟨ins,gs,outs,dr⟩) y9.len (ht.ok y9.len)
       cbv
       exact kM 8 (YC ⟨ins,gs,outs,dr⟩ lv tC ⟨v,cells,root,rl⟩ t.t (-1)) (by exact ao) (by exact ao) (tail t.t (-1) YD)
     ·intro T R hTR
      refine Sat.iK 7 0 3 1 oC cQ rfl rfl ?_
      refine Sat.cf (ER 0 0) 9 12 [(.c 7 0,8)] (λx:Nat × List Int=>[(12,.i .i64 λ_=>(x.1:Int))]) (λx=>[(7,.fix 135 [.own 8,.i .i64 (λ_=>T),.i .i64 (λ_=>R)]),(8,.dyn 3 1 bM λ_=>x.2)])
       (λx=>x.1<=l.length/\zo ⟨ins,gs,outs,dr⟩ root.length x.1 x.2) (λx=>l.length - x.1) (0,[]) (by exact ao) (by exact ao) ⟨cN _,.nil _ _⟩ ?_
      rintro ⟨j,xi⟩ ⟨hj,ku⟩
      have hj:j<=l.length:=hj
      have ku:zo ⟨ins,gs,outs,dr⟩ root.length j xi:=ku
      have Rs:=y9.len
      have qj:=ku.len
      have iN:=n0 j
      have vz:=cq (i:=j) (by omega)
      cbv
      refine ⟨l,⟨mH⟩,?_⟩
      cbv
      refine ⟨λh=>?_,λh=>?_⟩
      ·have ve:j < l.length:=bI
       have ll:l.length - (j+1) < l.length - j:=by omega
       refine (bD ve).elim λx hx=>?_
       have iI:=y9.mem x (cb hx)
       refine (⟨_,rfl⟩:∃s,uf ⟨⟨ins,gs,outs,dr⟩,root,rl,x⟩=s).elim λs hs=>?_
       have uC:=aeJ (lv:=lv) cJ iI.1 iI.2 (λ_=>atY x (cb hx))
       have bB:=ku.add (s:=s) (by rw [<-hs];exact uC)
       have FV:root.length<=1000000:=by omega
       have iO:ins.length<=1000:=by omega
       cbv
       refine ⟨l,⟨mH⟩,?_⟩
       cbv
       refine ⟨x,⟨iN,hx⟩,?_⟩
       cbv
       refine ⟨⟨⟨ins,gs,outs,dr⟩,root,rl,x⟩,⟨.inl ⟨by exact aK,rfl⟩,iO,FV,iI.1⟩,?_⟩
       cbv
       refine ⟨[s],⟨by exact bQ,by show (xi.length+1)*8<=_;omega,by show xi.length+1<=_;omega⟩,?_⟩
       cbv
       exact ⟨(j+1,xi++[s]),by exact ao,by exact ao,⟨⟨⟨ve,bB⟩,ll⟩⟩⟩
      ·have oe:j=l.length:=Pp h.out hj
       have s5:Kp (2+(ins.length:Int)+root.length) ⟨xi,T,R⟩:=⟨ku.ok,by simp only;rw [qj,oe];exact hTR.ok⟩
       have bB:=cJ.add ahx s5 l
       cbv
       refine ⟨[(v:Int)],⟨by exact bQ,by show (root.length+1)*8<=_;omega,by show root.length+1<=_;omega⟩,?_⟩
       cbv
       refine ⟨l,⟨mH⟩,?_⟩
       cbv
       refine ⟨[l],⟨by exact bQ,by show (rl.length+1)*24<=_;omega,by show rl.length+1<=_;omega⟩,?_⟩
       cbv
       refine Sat.freeze 8 rfl rfl ?_
       refine Sat.wU (aqm 0 0) ?_
       cbv
       refine ⟨[⟨xi,T,R⟩],⟨by exact bQ,by show (cells.length+1)*40<=_;omega,by show cells.length+1<=_;omega⟩,?_⟩
       cbv
       exact ⟨⟨v+1,cells++[⟨xi,T,R⟩],root++[(v:Int)],rl++[l]⟩,by exact ao,by exact ao,⟨⟨bB,CL⟩⟩⟩
   ·have rW:v=N:=by have h':aU (v:Int) (fR ⟨ins,gs,outs,dr⟩)=false:=h.out;rw [nv] at h';simp only [aU,decide_eq_false_iff_not] at h';exact aT
    have arX:∀d∈dr,d < (v:Int):=λd hd=>by have:=W3 d hd;exact aT
    cbv
    refine Sat.iK 3 2 3 1 oC cQ rfl rfl ?_
    refine Sat.cf (ER 0 0) 8 10 [(.c 3 2,7)] (λx:Nat × List Int=>[(13,.i .i64 λ_=>(x.1:Int))]) (λx=>[(3,.fix 94 [.i .i64 (λ_=>(ins.length:Int)),.own 4,.own 7,.own 5,.own 6,.ic .i64 0]),(7,.dyn 3 1 bM λ_=>x.2)])
     (λx=>x.1<=dr.length/\zo ⟨ins,gs,outs,dr⟩ root.length x.1 x.2) (λx=>dr.length - x.1) (0,[]) (by exact ao) (by exact ao) ⟨cN _,.nil _ _⟩ ?_
    rintro ⟨j,xi⟩ ⟨hj,ku⟩
    have hj:j<=dr.length:=hj
    have ku:zo ⟨ins,gs,outs,dr⟩ root.length j xi:=ku
    have qj:=ku.len
    have ahv:dr.length<=1000000:=ahv
    have iN:=n0 j
    have vz:=cq (i:=j) (by omega)
    cbv
    refine ⟨λh=>?_,λh=>?_⟩
    ·have ve:j < dr.length:=bI
     have ll:dr.length - (j+1) < dr.length - j:=by omega
     refine (bD ve).elim λx hx=>?_
     have iI:=W3 x (cb hx)
     have oR:=arX x (cb hx)
     refine (⟨_,rfl⟩:∃s,uf ⟨⟨ins,gs,outs,dr⟩,root,rl,x⟩=s).elim λs hs=>?_
     have uC:=aeJ (lv:=lv) cJ iI.1 oR (λ_=>Rk x (cb hx))
     have bB:=ku.add (s:=s) (by rw [<-hs];exact uC)
     have FV:root.length<=1000000:=by omega
     have iO:ins.length<=1000:=by omega
     cbv
     refine ⟨x,⟨iN,hx⟩,?_⟩
     cbv
     refine ⟨⟨⟨ins,gs,outs,dr⟩,root,rl,x⟩,⟨.inl ⟨by exact aK,rfl⟩,iO,FV,iI.1⟩,?_⟩
     cbv
     refine ⟨[s],⟨by exact bQ,by show (xi.length+1)*8<=_;omega,by show xi.length+1<=_;omega⟩,?_⟩
     cbv
     exact ⟨(j+1,xi++[s]),by exact ao,by exact ao,⟨⟨⟨ve,bB⟩,ll⟩⟩⟩
    ·have oe:j=dr.length:=Pp h.out hj
     have rN:=jG.of hn cJ (oe ▸ ku)
     cbv
     exact .mk' ⟨⟨ins.length,cells,xi⟩,root,rl,0⟩ ⟨by exact aK⟩ ⟨rN,rfl⟩
end Go.Proofs.Pk
