import Derived.Test.YthnhbemmlfaihaaGreatO13
import Derived.Test.YthnhbemmlfaihaaGreatO19
import Derived.Test.YthnhbemmlfaihaaGreatO31
set_option linter.unusedVariables false
set_option linter.unusedSimpArgs false
set_option maxRecDepth 10000
set_option maxHeartbeats 64000000
namespace Go.Proofs.Pk
open Go Go.Vc
@[reducible] noncomputable def aqu:jT where
 α:=NC
 args x:=[.agg (jX x.n),.agg [.i .i64 (λ_=>x.c.root),.sl 1 bC (λ_=>x.c.l)]]
 pre x:=cb x.n.ins.length x.n.aY/\x.c.l.length<=1000000
 β:=Int
 post x y:=y=0↔(eK x.n.ins.length x.n.aY x.c.root x.c.l).isSome=true
 res x y:=.i .i64 (λ_=>y)
noncomputable def cCk (n m:Nat):Ctx:=iD n m [(238,Tryz.f238)] [] [238]
theorem aod (n m:Nat):CB PP (cCk n m):=iH n m ⟨fo Tryz.func238,trivial⟩ trivial
theorem amg:kQ PP 185 aqu:=by
 refine qZ (aod 0 0) (fo Tryz.func185) (λa=>⟨mr a.n,⟨trivial,(λx=>(cP x).1),trivial⟩,trivial⟩) (λa y=>trivial) ?_
 rintro ⟨n,⟨root,l⟩⟩ hx
 have hx:cb n.ins.length n.aY/\l.length<=1000000:=hx
 refine ⟨?_⟩
 cbv
 refine fh.rel Zw ⟨n,⟨root,l⟩⟩ (by exact bW) ⟨hx⟩ λy hy=>?_
 have hy:z7 n.ins.length n.aY ⟨root,l⟩ y:=hy.out
 have hk:y.e=0↔(eK n.ins.length n.aY root l).isSome=true:=by
  rcases hy.ok with ⟨a,b⟩|⟨a,b⟩
  ·simp only at b;rw [a,b];simp
  ·simp only at b;rw [a,b];simp
 cbv
 exact .mk' y.e ⟨by exact bW⟩ hk
@[reducible] noncomputable def aqv:jT where
 α:=NC
 args x:=[.agg (jX x.n),.agg [.i .i64 (λ_=>x.c.root),.sl 1 bC (λ_=>x.c.l)]]
 pre x:=cb x.n.ins.length x.n.aY/\x.c.l.length<=1000000
 β:=Tab
 post x y:=nj x.n.ins.length x.n.aY x.c.root x.c.l=(y.t,y.e)
 res x y:=.agg [.i .i64 (λ_=>y.t),.i .i64 (λ_=>y.e)]
noncomputable def cTx (n m:Nat):Ctx:=iD n m [(238,Tryz.f238)] [(51,q7),(239,Q7)] [238]
theorem MB (n m:Nat):CB PP (cTx n m):=iH n m ⟨fo Tryz.func238,trivial⟩ ⟨rS,Yz,trivial⟩
theorem amh:kQ PP 184 aqv:=by
 refine qZ (MB 0 0) (fo Tryz.func184) (λa=>⟨mr a.n,⟨trivial,(λx=>(cP x).1),trivial⟩,trivial⟩) (λa y=>⟨trivial,trivial,trivial⟩) ?_
 rintro ⟨⟨ins,gs,outs,dr⟩,⟨root,l⟩⟩ hx
 obtain ⟨hn,hl⟩:cb ins.length gs/\l.length<=1000000:=hx
 have uI:2+ins.length+gs.length<=600:=hn.j6
 have Ja:2+ins.length+gs.length<=1000000:=by omega
 have uZ:=hl
 refine ⟨?_⟩
 cbv
 refine fh.rel Zw ⟨⟨ins,gs,outs,dr⟩,⟨root,l⟩⟩ (by exact bW) ⟨hn,uZ⟩ λy=>?_
 refine y.casesOn λyl ye hy=>?_
 have hy:z7 ins.length gs ⟨root,l⟩ ⟨yl,ye⟩:=hy.out
 cbv
 refine ⟨λh=>?_,λh=>?_⟩
 ·have he:¬ye=0:=aL
  have du:nj ins.length gs root l=(0,ye):=by
   rcases hy.ok with ⟨a,b⟩|⟨a,b⟩
   ·exact absurd a he
   ·simp only at a b;unfold nj;rw [b,a]
  clear h
  cbv
  exact .mk' ⟨0,ye⟩ ⟨by exact bW⟩ du
 ·have he:ye=0:=aL
  have Cx:eK ins.length gs root l=some yl:=by
   rcases hy.ok with ⟨a,b⟩|⟨a,b⟩
   ·exact b
   ·simp only at a;omega
  have hL:=DX Cx
  have Gg:=hL.len
  have kp:=hL.inc.nodup
  have zc:=hL.mem
  have wb:=hL.lo
  have Js:=hL.hi
  have azs:=YK hn Cx
  have fi:=(zK hn Cx).2
  have hgate:∀x∈yl,∃g,fy ins.length gs x.toNat=some g/\g.op≠7:=λx hx=>XC hn Cx hx
  have mM:fg ⟨ins,gs,outs,dr⟩=((2+ins.length+gs.length:Nat):Int):=by unfold fg;simp only;omega
  obtain ⟨N,hN⟩:∃N,N=2+ins.length+gs.length:=⟨_,rfl⟩
  rw [<-hN] at mM
  have azt:root < N:=by omega
  have hw:IntKind.i64.wrap (1*2^(min (IntKind.u64.wrap (l.length:Int)).toNat IntKind.i64.bits))=((2^l.length:Nat):Int):=by
   have:l.length=0\/l.length=1\/l.length=2\/l.length=3\/l.length=4:=by omega
   rcases this with e|e|e|e|e<;>rw [e]<;>rfl
  have aqw:2^l.length<=16:=by
   have:l.length=0\/l.length=1\/l.length=2\/l.length=3\/l.length=4:=by omega
   rcases this with e|e|e|e|e<;>rw [e]<;>decide
  have Uw:0<=IntKind.u64.wrap (l.length:Int):=by
   have:l.length=0\/l.length=1\/l.length=2\/l.length=3\/l.length=4:=by omega
   rcases this with e|e|e|e|e<;>rw [e]<;>decide
  obtain ⟨P,hP⟩:∃P,P=2^l.length:=⟨_,rfl⟩
  rw [<-hP] at hw aqw
  have aqx:∀T:Nat,sE (iz ins.length gs l root.toNat) P T->nj ins.length gs root l=((T:Int),0):=λT h=>by
   unfold nj
   rw [Cx,h.fin Gg hP]
  have hGV:∀(i:Nat),i < 16->∀j m v,qc ins.length gs l yl j m->VM N i m v->∀x,yl[j]?=some x->∀g,fy ins.length gs x.toNat=some g->g.op≠7->∀ba bb bc,v[g.a.toNat]?=some ba->v[g.b.toNat]?=some bb->v[g.c.toNat]?=some bc->vJ g.op ba bb bc=jy (iz ins.length gs l x.toNat) i:=λi hi j m v h hv x hx g hg h7 ba bb bc ha hb hc=>VM.gate hn Cx h hv hi hx hg h7 ha hb hc
  have hRt:∀(i j:Nat) m v,qc ins.length gs l yl j m->yl.length<=j->VM N i m v->v[root.toNat]?=some (jy (iz ins.length gs l root.toNat) i):=λi j m v h hj hv=>VM.root hn Cx h hj hv
  clear h
  cbv
  refine Sat.cU (MB 0 0) 5 7 [] (λx:Nat × Nat=>[(7,.i .i64 λ_=>(x.1:Int))]) (λx=>[(4,.fix 326 [.i .i64 (λ_=>(x.2:Int)),.ic .i64 0])])
   (λx=>x.1<=P/\sE (iz ins.length gs l root.toNat) x.1 x.2) (λx=>P - x.1) (0,0) (by exact aM) (by exact aM) ⟨cg _,sE.zero _⟩ ?_
  rintro ⟨i,t⟩ ⟨hi,ht⟩
  have hi:i<=P:=hi
  have ht:sE (iz ins.length gs l root.toNat) i t:=ht
  have cZ:=n0 i
  have ei:=cX (i:=i) (by omega)
  have vT:(List.replicate (fg ⟨ins,gs,outs,dr⟩).toNat false)=List.replicate N false:=by rw [mM];rfl
  have Jr:2<=N/\N<=600:=by omega
  have h1N:(0:Int)<=1/\(1:Int).toNat < (List.replicate (fg ⟨ins,gs,outs,dr⟩).toNat false).length:=by rw [vT,vr];exact ⟨by decide,by show 1 < N;omega⟩
  obtain ⟨b0,so⟩:=bK h1N.2
  have n1:0<=fg ⟨ins,gs,outs,dr⟩:=by rw [mM];exact bT
  have n2:(1:Int)*fg ⟨ins,gs,outs,dr⟩<=281474976710656:=by rw [mM];exact bT
  have n3:fg ⟨ins,gs,outs,dr⟩<=9223372036854775807:=by rw [mM];exact bT
  cbv
  refine ⟨⟨Uw⟩,?_⟩
  cbv
  refine ⟨λh=>?_,λh=>?_⟩
  ·have N6:i < P:=by have h':dv (i:Int) (IntKind.i64.wrap (1*2^(min (IntKind.u64.wrap (l.length:Int)).toNat IntKind.i64.bits)))=true:=h.out;rw [hw] at h';simp only [dv,decide_eq_true_eq] at h';exact bT
   have bX:P - (i+1) < P - i:=by omega
   have Ng:i < 16:=by omega
   have Ux:VM N i JE ((List.replicate (fg ⟨ins,gs,outs,dr⟩).toNat false).set (1:Int).toNat true):=by rw [vT];exact VM.start Jr.1 Ng
   clear h
   cbv
   refine ⟨⟨ins,gs,outs,dr⟩,⟨by exact bW,Ja⟩,?_⟩
   cbv
   refine ⟨⟨n1,iU _,n2,n3⟩,?_⟩
   cbv
   refine ⟨⟨h1N⟩,?_⟩
   cbv
   refine ⟨(b0,true),⟨so,rfl,by exact bW⟩,?_⟩
   cbv
   refine Sat.cU (MB 0 0) 6 9 [] (λx:Nat × List Bool=>[(9,.i .i64 λ_=>(x.1:Int))]) (λx=>[(5,.dyn 4 1 lX λ_=>x.2)])
    (λx=>x.1<=l.length/\∃m,wA l x.1 m/\VM N i m x.2) (λx=>l.length - x.1) (0,(List.replicate (fg ⟨ins,gs,outs,dr⟩).toNat false).set (1:Int).toNat true) (by exact aM) (by exact aM) ⟨cg _,JE,aoc l,Ux⟩ ?_
   rintro ⟨k,v⟩ ⟨hk,hm⟩
   have hk:k<=l.length:=hk
   refine hm.elim λm hm=>?_
   have hT1:wA l k m:=hm.1
   have hV:VM N i m v:=hm.2
   have gP:=hV.len
   have gR:=n0 k
   have ie:=cX (i:=k) (by omega)
   cbv
   refine ⟨λh=>?_,λh=>?_⟩
   ·have cT:k < l.length:=aL
    have IK:l.length - (k+1) < l.length - k:=by omega
    refine (bK cT).elim λx hx=>?_
    have nB:=cf hx
    have hxx:=zc x nB
    have fG:0<=x/\x.toNat < v.length:=by exact bT
    have Uy:x.toNat < N:=by omega
    refine (bK fG.2).elim λb hb=>?_
    have hku:=(ac4 (i:=k) (by omega)).1
    have wz:=akT i Ng k (by omega)
    have JF:=akR k (by omega) i Ng
    refine (⟨_,rfl⟩:∃bb,bb=i.testBit k).elim λbb JG=>?_
    rw [<-JG] at wz JF
    have bV:k+1<=l.length/\∃m',wA l (k+1) m'/\VM N i m' (v.set x.toNat bb):=⟨cT,_,hT1.step kp (λy hy=>(zc y hy).1) hx,hV.set fG.1 Uy JF.symm⟩
    clear h
    cbv
    refine ⟨x,⟨gR,hx⟩,?_⟩
    cbv
    refine ⟨⟨hku⟩,?_⟩
    cbv
    refine ⟨⟨fG⟩,?_⟩
    cbv
    refine ⟨(b,bb),⟨hb,rfl,.cons (.b wz) .nil⟩,?_⟩
    cbv
    exact ⟨(k+1,v.set x.toNat bb),by have bD:=ie;exact a8,by exact aM,⟨bV,IK⟩⟩
   ·have cT:¬k < l.length:=aL
    have hT2:qc ins.length gs l yl 0 m:=hT1.fin (show l.length<=k by omega) kp (λy hy=>(zc y hy).1) yl
    clear h
    cbv
    refine Sat.cU (MB 0 0) 6 9 [] (λx:Nat × List Bool=>[(10,.i .i64 λ_=>(x.1:Int))]) (λx=>[(5,.dyn 4 1 lX λ_=>x.2)])
     (λx=>x.1<=yl.length/\∃m,qc ins.length gs l yl x.1 m/\VM N i m x.2) (λx=>yl.length - x.1) (0,v) (by exact aM) (by exact aM) ⟨cg _,m,hT2,hV⟩ ?_
    rintro ⟨j,v2⟩ ⟨hj,mG⟩
    have hj:j<=yl.length:=hj
    refine mG.elim λm2 mG=>?_
    have hB:qc ins.length gs l yl j m2:=mG.1
    have N7:VM N i m2 v2:=mG.2
    have azu:=N7.len
    have gV:=n0 j
    have jm:=cX (i:=j) (by omega)
    cbv
    refine ⟨λh=>?_,λh=>?_⟩
    ·have dG:j < yl.length:=aL
     have SF:yl.length - (j+1) < yl.length - j:=by omega
     refine (bK dG).elim λx hx=>?_
     have nB:=cf hx
     have wu:=(fi x).1 nB
     refine (hgate x nB).elim λg hg=>?_
     refine (lB.1 hg.1).elim λgi iB=>?_
     have hgx:x=2+(ins.length:Int)+gi:=by exact bT
     have ib:gs[gi]?=some g:=iB.2
     have hgl:=(a7.1 ib).1
     have G:=hn.aY gi g ib
     have ha:=G.a
     have hb:=G.b
     have hc:=G.c
     have mH:(0<=IntKind.i64.wrap (IntKind.i64.wrap (x - 2) - (ins.length:Int)))/\gs[(IntKind.i64.wrap (IntKind.i64.wrap (x - 2) - (ins.length:Int))).toNat]?=some g:=by
      rw [cW (n:=x - 2) (by exact bT) (by exact bT),cW (by exact bT) (by exact bT)];exact ⟨by exact bT,by rw [show (x - 2 - (ins.length:Int)).toNat=gi by exact bT];exact ib⟩
     have hav:0<=g.a/\g.a.toNat < v2.length:=by exact bT
     have hbv:0<=g.b/\g.b.toNat < v2.length:=by exact bT
     have sr:0<=g.c/\g.c.toNat < v2.length:=by exact bT
     have fG:0<=x/\x.toNat < v2.length:=by exact bT
     have Uy:x.toNat < N:=by omega
     refine (bK hav.2).elim λba hba=>?_
     refine (bK hbv.2).elim λbb wz=>?_
     refine (bK sr.2).elim λbc JF=>?_
     refine (bK fG.2).elim λbx uS=>?_
     refine (⟨_,rfl⟩:∃r,r=vJ g.op ba bb bc).elim λr hr=>?_
     have wb:=hr.trans (hGV i Ng j m2 v2 hB N7 x hx g hg.1 hg.2 ba bb bc hba wz JF)
     have bV:j+1<=yl.length/\∃m',qc ins.length gs l yl (j+1) m'/\VM N i m' (v2.set x.toNat r):=⟨dG,_,hB.step hx wu.1 wu.2.2,N7.set fG.1 Uy wb⟩
     clear h
     cbv
     refine ⟨x,⟨gV,hx⟩,?_⟩
     cbv
     refine ⟨g,⟨mH⟩,?_⟩
     cbv
     refine ⟨x,⟨gV,hx⟩,?_⟩
     cbv
     refine ⟨⟨hav⟩,?_⟩
     cbv
     refine ⟨ba,⟨hba,rfl⟩,?_⟩
     cbv
     refine ⟨⟨hbv⟩,?_⟩
     cbv
     refine ⟨bb,⟨wz,rfl⟩,?_⟩
     cbv
     refine ⟨⟨sr⟩,?_⟩
     cbv
     refine ⟨bc,⟨JF,rfl⟩,?_⟩
     cbv
     refine ⟨⟨g,ba,bb,bc⟩,⟨by exact bW,trivial⟩,?_⟩
     cbv
     refine ⟨⟨fG⟩,?_⟩
     cbv
     refine ⟨(bx,r),⟨uS,rfl,.cons (.b hr.symm) .nil⟩,?_⟩
     cbv
     exact ⟨(j+1,v2.set x.toNat r),by have bD:=jm;exact a8,by exact aM,⟨bV,SF⟩⟩
    ·have dG:¬j < yl.length:=aL
     have AP:0<=root/\root.toNat < v2.length:=by exact bT
     have hbr:=hRt i j m2 v2 hB (show yl.length<=j by omega) N7
     refine (⟨_,rfl⟩:∃br,jy (iz ins.length gs l root.toNat) i=br).elim λbr JG=>?_
     rw [JG] at hbr
     have we:=ac4 (i:=i) (by omega)
     have h16:2^i < 65536:=G4 (BS (by decide) (show i < 16 by omega)) (by decide)
     have JA:t < 65536:=BN ht.lt h16
     have hor:gg .or .i64 (t:Int) (IntKind.i64.wrap (1*2^(min (IntKind.u64.wrap (i:Int)).toNat IntKind.i64.bits)))=((t ||| 2^i:Nat):Int):=by
      rw [we.2,<-ac3 JA h16]
     clear h
     cbv
     refine ⟨⟨AP⟩,?_⟩
     cbv
     refine ⟨br,⟨hbr,rfl⟩,?_⟩
     cbv
     refine ⟨λh=>?_,λh=>?_⟩
     ·have ig:br=true:=h.out
      have bV:=ht.one (JG.trans ig)
      clear h
      cbv
      refine ⟨⟨we.1⟩,?_⟩
      cbv
      exact ⟨(i+1,t ||| 2^i),by have bD:=ei;exact a8,by have bD:=hor;exact a8,⟨⟨N6,bV⟩,bX⟩⟩
     ·have ig:br=false:=h.out
      have bV:=ht.off (JG.trans ig)
      clear h
      cbv
      exact ⟨(i+1,t),by have bD:=ei;exact a8,by exact aM,⟨⟨N6,bV⟩,bX⟩⟩
  ·have N6:i=P:=by have h':dv (i:Int) (IntKind.i64.wrap (1*2^(min (IntKind.u64.wrap (l.length:Int)).toNat IntKind.i64.bits)))=false:=h.out;rw [hw] at h';simp only [dv,decide_eq_false_iff_not] at h';exact bT
   have hT:=aqx t (by rw [<-N6];exact ht)
   clear h
   cbv
   exact .mk' ⟨(t:Int),0⟩ ⟨by exact bW⟩ hT
end Go.Proofs.Pk
