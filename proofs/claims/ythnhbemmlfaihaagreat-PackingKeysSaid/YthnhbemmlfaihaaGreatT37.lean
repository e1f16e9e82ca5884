import Derived.Test.YthnhbemmlfaihaaGreatT12
import Derived.Test.YthnhbemmlfaihaaGreatT15
import Derived.Test.YthnhbemmlfaihaaGreatT34
import Derived.Test.YthnhbemmlfaihaaGreatT35
import Derived.Test.YthnhbemmlfaihaaGreatT36
set_option linter.unusedVariables false
set_option linter.unusedSimpArgs false
set_option maxRecDepth 10000
set_option maxHeartbeats 64000000
namespace Go.Proofs.Pk
open Go Go.Vc
structure ais where
 x:PR
 c:Cell
structure XC (y:ais):Prop where
 BM:eU y.x.n
 w:y.x.w=wh y.x.n.ins
 parts:y.x.k.parts.length<=100000
 cells:y.x.k.cells.length<=100000
 dK:y.c.ins.length<=100000
 ins:∀g∈y.c.ins,0<=g/\g < 2+y.x.n.ins.length+y.x.k.cells.length
 k:∀x∈y.x.k.parts,x.ins.length<=100000
 src:∀g∈y.c.ins,(gQ y.x.n.ins y.x.k.cells g).kind=3->(gQ y.x.n.ins y.x.k.cells g).n=0\/(gQ y.x.n.ins y.x.k.cells g).n=1
@[reducible] noncomputable def afc:na where
 α:=ais
 args y:=[.ptr 0 0,.agg (rM y.c)]
 io y:=Bm y.x
 pre y:=XC y
 β:=Unit
 post x y:=True
 mv:=[2,3]
 res y _:=.dH []
 ko y _:=Bm ⟨y.x.n,y.x.w,jt y.x.n.ins y.x.k y.c⟩
theorem anO {b9:Int} {l:List Source} (h:0<=b9):strip b9 (l++[⟨3,0⟩])=strip b9 l:=by
 simp [strip,h,xO]
theorem am8 {b9:Int} {l:List Source} {s:Source} (h:s≠⟨3,0⟩):strip b9 (l++[s])=l++[s]:=by
 unfold strip
 split
 ·simp [xO,h]
 ·rfl
theorem ER {α:Type} {l:List α} {n:Nat} {x:α} (h:l[n]?=some x):l.take (n+1)=l.take n++[x]:=by
 rw [El,h];rfl
theorem aoM {ins:List bU} {k:PK} {c:Cell} {l:List Source} {R:Int} (hl:strip c.b9 (c.ins.map (gQ ins k.cells))=l) (hR:yg c l k.parts=R) (h:0<=R) :
  jt ins k c={ k with cells:=k.cells++[⟨2,R⟩] }:=by
 unfold jt
 simp only [hl]
 unfold yg at hR
 split at hR
 ·rename_i i hi
  rw [hi,<-hR]
 ·omega
theorem apV {ins:List bU} {k:PK} {c:Cell} {l:List Source} {R:Int} (hl:strip c.b9 (c.ins.map (gQ ins k.cells))=l) (hR:yg c l k.parts=R) (h:R < 0) :
  jt ins k c={ (k.add ⟨l,c.table,c.b9,-1⟩) with cells:=k.cells++[k.here],n0:=k.n0||oH 0 l,n1:=k.n1||oH 1 l }:=by
 unfold jt
 simp only [hl]
 unfold yg at hR
 split at hR
 ·omega
 ·rename_i hi
  rw [hi]
theorem NT {v:Int} {l:List Source} {i:Nat} {x:Source} (h:l[i]?=some x):oH v (l.take (i+1))=(oH v (l.take i)||(x.kind == 3&&x.n == v)):=by
 rw [ER h];simp [oH]
noncomputable def RN (x:PR) (c:Cell) (l:List Source):Vc.St :=
 ⟨[.ptr 0 0,.agg (rM c),.any,.ptr 5 0,.ptr 7 0]++x4 83,Bm x++[.fix 135 (rM c),.dead,.fix 295 [.sl 2 mB (λ_=>l)]]⟩
noncomputable def cCe (n m:Nat):Ctx:=eF n m [(233,Tryz.f233),(168,Tryz.f168)] [(167,Ld),(234,QT)] [168] [233] [4]
theorem Wg (n m:Nat):CB PP (cCe n m):=eH n m ⟨fo Tryz.func233,fo Tryz.func168,trivial⟩ ⟨UY,afb,trivial⟩
noncomputable def avo (n m:Nat):Ctx:=eF n m [(233,Tryz.f233),(168,Tryz.f168)] [(167,Ld),(234,QT)] [168] [233]
theorem Vv (n m:Nat):CB PP (avo n m):=eH n m ⟨fo Tryz.func233,fo Tryz.func168,trivial⟩ ⟨UY,afb,trivial⟩
theorem aoN:iK PP 165 afc:=by
 refine mP (Wg 0 0) (fo Tryz.func165) (λa y=>rfl) (λa=>⟨rfl,rfl⟩) (by show ([2,3]:List Nat).Nodup;decide) ?_
 rintro ⟨⟨⟨ins,gs,outs,dr⟩,w,⟨parts,cells,fI,fJ,bL⟩⟩,⟨fU,ct,cr⟩⟩ hx
 have hx:XC ⟨⟨⟨ins,gs,outs,dr⟩,w,⟨parts,cells,fI,fJ,bL⟩⟩,⟨fU,ct,cr⟩⟩:=hx
 have Jh:parts.length<=100000:=hx.parts
 have hc6:cells.length<=100000:=hx.cells
 have gY:fU.length<=100000:=hx.dK
 have wS:∀g∈fU,0<=g/\g < 2+(ins.length:Int)+cells.length:=hx.ins
 obtain ⟨K,hK⟩:∃K,jt ins ⟨parts,cells,fI,fJ,bL⟩ ⟨fU,ct,cr⟩=K:=⟨_,rfl⟩
 have j2:=hx.BM
 have qw:w=wh ins:=hx.w
 have DM:∀x∈parts,x.ins.length<=100000:=hx.k
 obtain ⟨L,hL⟩:∃L,fU.map (gQ ins cells)=L:=⟨_,rfl⟩
 have I4:L.length=fU.length:=by rw [<-hL];simp
 refine ⟨?_⟩
 cbv
 refine ⟨⟨by decide,by exact GZ _,by show (16:Int)*(fU.length:Int)<=281474976710656;omega,by show (fU.length:Int)<=9223372036854775807;omega⟩,?_⟩
 cbv
 refine Sat.cd (Wg 0 0) 7 10 [(.t 5,6)] (λi:Nat=>[(5,.own 6),(11,.sl 1 bK (λ_=>fU)),(12,.i .i64 (λ_=>(fU.length:Int))),(13,.i .i64 (λ_=>(i:Int)))]) (λi=>[(6,.dyn 302 2 mB (λ_=>(fU.take i).map (gQ ins cells)))]) (λi=>i<=fU.length) (λi=>fU.length - i) 0 (by exact ao) (by exact ao) (cL _) ?_
 intro i hi
 have hi:i<=fU.length:=hi
 have h0:=n0 i
 have h1:=cj (i:=i) (by omega)
 cbv
 refine ⟨λh=>?_,λh=>?_⟩
 ·have bq:i < fU.length:=bG
  have a7:fU.length - (i+1) < fU.length - i:=by omega
  refine (bB bq).elim λg hg=>?_
  have oQ:=wS g (cb hg)
  have z9:HX ⟨⟨⟨ins,gs,outs,dr⟩,w,⟨parts,cells,fI,fJ,bL⟩⟩,g⟩:=⟨j2,qw,oQ.1,oQ.2,by show cells.length<=1000000;omega⟩
  have yJ:(fU.take i).map (gQ ins cells)++[gQ ins cells g]=(fU.take (i+1)).map (gQ ins cells):=by rw [ER hg];simp
  have mM:((fU.take i).map (gQ ins cells)).length+1<=100001:=by simp;omega
  have ef:(((fU.take i).map (gQ ins cells)).length+1)*16<=140737488355328:=by omega
  have nj:((fU.take i).map (gQ ins cells)).length+1<=9223372036854775807:=by omega
  cbv
  refine Sat.uH (Vv 0 0) ?_
  cbv
  refine ⟨g,⟨h0,hg⟩,?_⟩
  cbv
  refine ⟨⟨⟨⟨ins,gs,outs,dr⟩,w,⟨parts,cells,fI,fJ,bL⟩⟩,g⟩,⟨.inl ⟨by exact bQ,rfl⟩,z9⟩,?_⟩
  cbv
  refine ⟨[gQ ins cells g],⟨by exact bQ,ef,nj⟩,?_⟩
  cbv
  exact ⟨i+1,by exact ao,by have dP:=yJ;exact bI,⟨⟨bq,a7⟩⟩⟩
 ·have bS:i=fU.length:=by
   have h':aS i fU.length=false:=h.out
   have h2:¬(i:Int) < fU.length:=by simpa [aS] using h'
   omega
  have hLe:(fU.take i).map (gQ ins cells)=L.take L.length:=by rw [bS,kC,kC,hL]
  cbv
  refine Sat.freeze 6 rfl rfl ?_
  refine Sat.cd (Wg 0 0) 8 13 [] (λn:Nat=>[]) (λn=>[(7,.fix 295 [.sl 2 mB (λ_=>L.take n)])]) (λn=>n<=L.length/\strip cr (L.take n)=strip cr L) (λn=>n) L.length (by exact ao) (by have dP:=hLe;have dJ:=hLe;exact bI) ⟨cR _,by rw [kC]⟩ ?_
  rintro n ⟨hn,cI⟩
  have hn:n<=L.length:=hn
  have cI:strip cr (L.take n)=strip cr L:=cI
  have yj:(L.take n).length=n:=by rw [kB];omega
  have ait:∀m,n=m+1->0<=cr->L[m]?=some ⟨3,0⟩->m<=L.length/\strip cr (L.take m)=strip cr L:=λm hm h0 hx=>⟨by omega,by rw [<-cI,hm,ER hx,anO h0]⟩
  have Qb:cr < 0\/n=0\/(∃m x,n=m+1/\L[m]?=some x/\x≠⟨3,0⟩)->strip cr L=L.take n:=by
   rintro (h|h|⟨m,x,h,hx,cT⟩)
   ·rw [<-cI,abL h]
   ·rw [<-cI,h];simp [strip,xO]
   ·rw [<-cI,h,ER hx,am8 cT]
  obtain ⟨l,mq⟩:∃l,L.take n=l:=⟨_,rfl⟩
  apply Co (λc k=>∀l:List Source,strip cr L=l->Sat [.ptr 0 0,.e9 1,.any,.any,.e9 4] false PP c (RN ⟨⟨ins,gs,outs,dr⟩,w,⟨parts,cells,fI,fJ,bL⟩⟩ ⟨fU,ct,cr⟩ l) k)
  ·intro tail
   cbv
   refine ⟨λh=>?_,λh=>?_⟩
   ·have hr:0<=cr:=bG
    cbv
    refine ⟨λh=>?_,λh=>?_⟩
    ·have h':aS 0 ((L.take n).length:Int)=true:=h.out
     have rU:0 < n:=by rw [yj] at h';simp only [aS,decide_eq_true_eq] at h';omega
     obtain ⟨m,hm⟩:∃m,n=m+1:=⟨n - 1,by omega⟩
     refine (bB (l:=L) (i:=m) (by omega)).elim λx gW=>?_
     have DE:IntKind.i64.wrap (((L.take n).length:Int) - 1)=(m:Int):=by rw [yj,cD (by omega) (by omega)];omega
     have gE:0<=IntKind.i64.wrap (((L.take n).length:Int) - 1)/\(L.take n)[(IntKind.i64.wrap (((L.take n).length:Int) - 1)).toNat]?=some x:=by
      rw [DE];refine ⟨by omega,?_⟩;rw [pf,NX (by omega)];exact gW
     have asT:(0:Int)<=0/\(0:Int)<=IntKind.i64.wrap (((L.take n).length:Int) - 1)/\IntKind.i64.wrap (((L.take n).length:Int) - 1)<=((L.take n).length:Int):=by rw [DE,yj];omega
     have jm:(((L.take n).take (IntKind.i64.wrap (((L.take n).length:Int) - 1)).toNat).drop (0:Int).toNat)=L.take m:=by
      rw [DE,pf,Ob,show min m n=m by omega];rfl
     have uz:m < n:=by omega
     cbv
     refine ⟨x,⟨gE⟩,?_⟩
     cbv
     refine ⟨λh=>?_,λh=>?_⟩
     ·have XD:x=⟨3,0⟩:=by have h:=h.out;simp [aV] at h;cases x;simp at h ⊢;exact h
      have bA:=ait m hm hr (by rw [gW,XD])
      cbv
      refine ⟨⟨asT⟩,?_⟩
      cbv
      exact ⟨m,by exact ao,by have dP:=jm;have dJ:=jm;exact bI,⟨⟨bA,uz⟩⟩⟩
     ·have XD:x≠⟨3,0⟩:=by rintro rfl;have h:=h.out;simp [aV] at h
      have hs:=Qb (.inr (.inr ⟨m,x,hm,gW,XD⟩))
      cbv
      exact kQ 8 (RN ⟨⟨ins,gs,outs,dr⟩,w,⟨parts,cells,fI,fJ,bL⟩⟩ ⟨fU,ct,cr⟩ l) (by exact ao) (by exact ao) (tail l (hs.trans mq))
    ·have h':aS 0 ((L.take n).length:Int)=false:=h.out
     have rU:n=0:=by rw [yj] at h';simp only [aS,decide_eq_false_iff_not] at h';omega
     have hs:=Qb (.inr (.inl rU))
     cbv
     exact kQ 8 (RN ⟨⟨ins,gs,outs,dr⟩,w,⟨parts,cells,fI,fJ,bL⟩⟩ ⟨fU,ct,cr⟩ l) (by exact ao) (by exact ao) (tail l (hs.trans mq))
   ·have hr:cr < 0:=by have h':cU 0 cr=false:=h.out;simp only [cU,decide_eq_false_iff_not] at h';omega
    have hs:=Qb (.inl hr)
    cbv
    exact kQ 8 (RN ⟨⟨ins,gs,outs,dr⟩,w,⟨parts,cells,fI,fJ,bL⟩⟩ ⟨fU,ct,cr⟩ l) (by exact ao) (by exact ao) (tail l (hs.trans mq))
  ·intro l hl
   clear ait Qb
   have mq:l.length<=100000:=by
    have:=abK cr L
    rw [<-hl];omega
   have qT:∀s∈L,s.kind=3->s.n=0\/s.n=1:=by
    intro s hs
    rw [<-hL] at hs
    obtain ⟨g,hg,rfl⟩:=kf.1 hs
    exact hx.src g hg
   have gE:XA ⟨parts,⟨fU,ct,cr⟩,l⟩:=⟨by show parts.length<=1000000;omega,by show l.length<=1000000;omega,λx hx=>by have:=DM x hx;show x.ins.length<=1000000;omega⟩
   obtain ⟨R,hR⟩:∃R,yg ⟨fU,ct,cr⟩ l parts=R:=⟨_,rfl⟩
   have hlc:strip cr (fU.map (gQ ins cells))=l:=by rw [hL,hl]
   have hcz:(cells.length+1)*16<=140737488355328:=by omega
   have aiu:cells.length+1<=9223372036854775807:=by omega
   have MR:afc.ko ⟨⟨⟨ins,gs,outs,dr⟩,w,⟨parts,cells,fI,fJ,bL⟩⟩,⟨fU,ct,cr⟩⟩ ()=Bm ⟨⟨ins,gs,outs,dr⟩,w,K⟩:=by rw [<-hK]
   refine Sat.uH (Vv 0 0) ?_
   cbv
   refine ⟨⟨parts,⟨fU,ct,cr⟩,l⟩,⟨.inl ⟨by exact bQ,rfl⟩,gE⟩,?_⟩
   cbv
   refine ⟨λh=>?_,λh=>?_⟩
   ·have MS:0<=R:=by have h':cU 0 (yg ⟨fU,ct,cr⟩ l parts)=true:=h.out;rw [hR] at h';simpa [cU] using h'
    have qz:=aoM (k:=⟨parts,cells,fI,fJ,bL⟩) (c:=⟨fU,ct,cr⟩) hlc hR MS
    rw [hK] at qz
    have e3:cells++[⟨2,R⟩]=(jt ins ⟨parts,cells,fI,fJ,bL⟩ ⟨fU,ct,cr⟩).cells:=by rw [hK,qz]
    have e1:parts=(jt ins ⟨parts,cells,fI,fJ,bL⟩ ⟨fU,ct,cr⟩).parts:=by rw [hK,qz]
    have e2:bL=(jt ins ⟨parts,cells,fI,fJ,bL⟩ ⟨fU,ct,cr⟩).bL:=by rw [hK,qz]
    have e4:fI=(jt ins ⟨parts,cells,fI,fJ,bL⟩ ⟨fU,ct,cr⟩).n0:=by rw [hK,qz]
    have e5:fJ=(jt ins ⟨parts,cells,fI,fJ,bL⟩ ⟨fU,ct,cr⟩).n1:=by rw [hK,qz]
    cbv
    refine ⟨[⟨2,R⟩],⟨by exact bQ,hcz,aiu⟩,?_⟩
    cbv
    refine ⟨(),[],[(.c 0 5,2),(.c 0 6,3)],?_,by have im:=e2;have j6:=e1;have lD:=e3;have dP:=e1;have kI:=e3;have oU:=e4;have BA:=e5;have jW:=e4;have mQ:=e5;exact bI,⟨trivial⟩⟩
    cbv
    exact ⟨by exact aL,trivial⟩
   ·have MS:R < 0:=by have h':cU 0 (yg ⟨fU,ct,cr⟩ l parts)=false:=h.out;rw [hR] at h';simp only [cU,decide_eq_false_iff_not] at h';omega
    have qz:=apV (k:=⟨parts,cells,fI,fJ,bL⟩) (c:=⟨fU,ct,cr⟩) hlc hR MS
    rw [hK] at qz
    cbv
    refine Sat.cd (Vv 0 0) 8 5 [] (λx:Nat × Bool × Bool=>[(55,.sl 2 mB (λ_=>l)),(56,.i .i64 (λ_=>(l.length:Int))),(57,.i .i64 (λ_=>(x.1:Int)))])
     (λx=>[(0,.fix 298 [.sl 3 dk (λ_=>ins),.sl 5 dE (λ_=>gs),.sl 3 dk (λ_=>outs),.sl 1 bK (λ_=>dr),.e9 1,.own 2,.own 3,.b (λ_=>x.2.1),.b (λ_=>x.2.2),.e9 4])])
     (λx=>x.1<=l.length/\x.2.1=(fI||oH 0 (l.take x.1))/\x.2.2=(fJ||oH 1 (l.take x.1))) (λx=>l.length - x.1) (0,fI,fJ) (by exact ao) (by exact ao) ⟨cL _,by simp [oH],by simp [oH]⟩ ?_
    rintro ⟨i,b0,b1⟩ ⟨hi,ei,jL⟩
    have hi:i<=l.length:=hi
    have ei:b0=(fI||oH 0 (l.take i)):=ei
    have jL:b1=(fJ||oH 1 (l.take i)):=jL
    have h0:=n0 i
    have h1:=cj (i:=i) (by omega)
    cbv
    refine ⟨λh=>?_,λh=>?_⟩
    ·have bq:i < l.length:=bG
     have a7:l.length - (i+1) < l.length - i:=by omega
     refine (bB bq).elim λx qs=>?_
     have RO:x.kind=3->x.n=0\/x.n=1:=qT x (by rw [<-hl] at qs;exact abJ x (cb qs))
     have eA:¬x.kind=3->i+1<=l.length/\b0=(fI||oH 0 (l.take (i+1)))/\b1=(fJ||oH 1 (l.take (i+1))):=λhk=>by
      have YV:(x.kind == 3)=false:=beq_eq_false_iff_ne.2 hk
      refine ⟨bq,?_,?_⟩
      ·rw [NT qs,ei,YV,Tt,Tx]
      ·rw [NT qs,jL,YV,Tt,Tx]
     have h00:x.kind=3->x.n=0->i+1<=l.length/\true=(fI||oH 0 (l.take (i+1)))/\b1=(fJ||oH 1 (l.take (i+1))):=λhk hn=>by
      refine ⟨bq,?_,?_⟩<;>simp [NT qs,jL,hk,hn]
     have zZ:x.kind=3->x.n=1->i+1<=l.length/\b0=(fI||oH 0 (l.take (i+1)))/\true=(fJ||oH 1 (l.take (i+1))):=λhk hn=>by
      refine ⟨bq,?_,?_⟩<;>simp [NT qs,ei,hk,hn]
     cbv
     refine ⟨x,⟨h0,qs⟩,?_⟩
     cbv
     refine ⟨λh=>?_,λh=>?_⟩
     ·have nU:x.kind=3:=bG
      rcases RO nU with hn|hn
      ·have bA:=h00 nU hn
       cbv
       refine ⟨0,⟨hn,by decide⟩,?_⟩
       cbv
       exact ⟨(i+1,true,b1),by exact ao,by exact ao,⟨⟨bA,a7⟩⟩⟩
      ·have bA:=zZ nU hn
       cbv
       refine ⟨1,⟨hn,by decide⟩,?_⟩
       cbv
       exact ⟨(i+1,b0,true),by exact ao,by exact ao,⟨⟨bA,a7⟩⟩⟩
     ·have nU:¬x.kind=3:=bG
      have bA:=eA nU
      cbv
      exact ⟨(i+1,b0,b1),by exact ao,by exact ao,⟨⟨bA,a7⟩⟩⟩
    ·have bS:i=l.length:=by
      have h':aS i l.length=false:=h.out
      have h2:¬(i:Int) < l.length:=by simpa [aS] using h'
      omega
     rw [bS,kC] at ei jL
     have Gp:parts.length<=1000000:=by omega
     have e1:(PK.add ⟨parts,cells,b0,b1,bL⟩ ⟨l,ct,cr,-1⟩).parts=(jt ins ⟨parts,cells,fI,fJ,bL⟩ ⟨fU,ct,cr⟩).parts:=by rw [hK,qz];rfl
     have e2:(PK.add ⟨parts,cells,b0,b1,bL⟩ ⟨l,ct,cr,-1⟩).bL=(jt ins ⟨parts,cells,fI,fJ,bL⟩ ⟨fU,ct,cr⟩).bL:=by rw [hK,qz];rfl
     have e3:(PK.add ⟨parts,cells,b0,b1,bL⟩ ⟨l,ct,cr,-1⟩).cells++[⟨2,(parts.length:Int)⟩]=(jt ins ⟨parts,cells,fI,fJ,bL⟩ ⟨fU,ct,cr⟩).cells:=by rw [hK,qz];rfl
     have e4:b0=(jt ins ⟨parts,cells,fI,fJ,bL⟩ ⟨fU,ct,cr⟩).n0:=by rw [hK,qz,ei]
     have e5:b1=(jt ins ⟨parts,cells,fI,fJ,bL⟩ ⟨fU,ct,cr⟩).n1:=by rw [hK,qz,jL]
     cbv
     refine bV.io Cs ⟨⟨⟨ins,gs,outs,dr⟩,w,⟨parts,cells,b0,b1,bL⟩⟩,⟨l,ct,cr,-1⟩⟩ [0,1,2,3,4] rfl (by exact bQ) (by exact ao) ⟨Gp⟩ λ_ _=>?_
     cbv
     refine ⟨[⟨2,(parts.length:Int)⟩],⟨by exact bQ,hcz,aiu⟩,?_⟩
     cbv
     refine ⟨(),[],[(.c 0 5,2),(.c 0 6,3)],?_,by have im:=e2;have j6:=e1;have lD:=e3;have dP:=e1;have kI:=e3;have oU:=e4;have BA:=e5;have jW:=e4;have mQ:=e5;exact bI,⟨trivial⟩⟩
     cbv
     exact ⟨by exact aL,trivial⟩
def xh (n:Net) (m:gL) (i:Nat):PK:=(m.cells.take i).foldl (jt n.ins) ⟨[],[],false,false,λ_=>none⟩
def rn (n:Net) (m:gL):List (bU × Int):=n.outs.zip m.ay
def xk (n:Net) (m:gL) (i:Nat):PK:=((rn n m).take i).foldl (oN n.ins) (xh n m m.cells.length)
def nV (n:Net) (m:gL):PK:=xk n m n.outs.length
def sW (n:Net) (m:gL):PK:=oE (nV n m) 0 (nV n m).n0
def qC (n:Net) (m:gL):PK:=oE (sW n m) 1 (nV n m).n1
def RP (n:Net) (m:gL):Int:=if (nV n m).n0 then (nV n m).parts.length else 0
def RQ (n:Net) (m:gL):Int:=if (nV n m).n1 then (sW n m).parts.length else 0
def xl (n:Net) (m:gL) (i:Nat):TH:=((rn n m).take i).foldl (nJ n.ins) ⟨qC n m,[],λ_=>none⟩
theorem take_one {α:Type} {l:List α} {i:Nat} {x:α} (h:l[i]?=some x):l.take (i+1)=l.take i++[x]:=by
 rw [El,h];rfl
theorem Hm {α β:Type} (f:β->α->β) (b:β) {l:List α} {i:Nat} {x:α} (h:l[i]?=some x):(l.take (i+1)).foldl f b=f ((l.take i).foldl f b) x:=by
 rw [take_one h,N3];rfl
theorem apW {n:Net} {m:gL} {i:Nat} {c:Cell} (h:m.cells[i]?=some c):xh n m (i+1)=jt n.ins (xh n m i) c:=Hm _ _ h
theorem agv {n:Net} {m:gL} {i:Nat} {w:bU} {d:Int} (hw:n.outs[i]?=some w) (hd:m.ay[i]?=some d):(rn n m)[i]?=some (w,d):=by
 unfold rn;rw [NU];exact ⟨hw,hd⟩
theorem apX {n:Net} {m:gL} {i:Nat} {w:bU} {d:Int} (hw:n.outs[i]?=some w) (hd:m.ay[i]?=some d):xk n m (i+1)=oN n.ins (xk n m i) (w,d):=Hm _ _ (agv hw hd)
theorem apY {n:Net} {m:gL} {i:Nat} {w:bU} {d:Int} (hw:n.outs[i]?=some w) (hd:m.ay[i]?=some d):xl n m (i+1)=nJ n.ins (xl n m i) (w,d):=Hm _ _ (agv hw hd)
theorem Vw {n:Net} {m:gL} (hm:jI n m):(rn n m).length=n.outs.length:=by
 unfold rn;rw [List.length_zip,hm.pA,Nat.min_self]
theorem aoO {n:Net} {m:gL} (hm:jI n m):oI n m=⟨RP n m,RQ n m,xl n m n.outs.length⟩:=by
 have e1:xh n m m.cells.length=m.cells.foldl (jt n.ins) ⟨[],[],false,false,λ_=>none⟩:=by unfold xh;rw [kC]
 have e2:(rn n m).take n.outs.length=n.outs.zip m.ay:=by rw [<-Vw hm,kC];rfl
 have e3:nV n m=(n.outs.zip m.ay).foldl (oN n.ins) (m.cells.foldl (jt n.ins) ⟨[],[],false,false,λ_=>none⟩):=by unfold nV xk;rw [e2,e1]
 unfold oI RP RQ xl qC sW
 rw [e2,e3]
theorem aoP {n:Net} (hn:eU n):(qO n.outs).length<=600:=by
 have:=acZ hn
 have:=hn.pI
 omega
theorem amd (l:List bU) (i:Nat):(qO (l.take i)).length<=(qO l).length:=by
 have h:(qO (l.take i)).Sublist (qO l):=(N2 i l).filter _
 exact h.length_le
structure avp (n:Net) (i:Nat) (k:PK):Prop where
 ok:oO n.ins i k
 dK:k.parts.length<=600
theorem agw {n:Net} {m:gL} (hn:eU n) (hm:jI n m) {i:Nat} (hi:i<=m.cells.length):avp n i (xh n m i):=by
 obtain ⟨h1,h2,h3⟩:=NS hm i hi
 have:=hm.dK
 have:=hn.pI
 exact ⟨h1,by show (xh n m i).parts.length<=600;unfold xh;omega⟩
theorem anP {n:Net} {m:gL} (hm:jI n m) (c:Int):(xh n m m.cells.length).bL c=none:=by
 obtain ⟨a1,a2,a3⟩:=NS hm m.cells.length (cR _)
 unfold xh
 cases hc:((m.cells.take m.cells.length).foldl (jt n.ins) ⟨[],[],false,false,λ_=>none⟩).bL c with
 | none=>rfl
 | some v =>
  obtain ⟨b,_,x,hx,hr,h0⟩:=a1.back c v hc
  have:=a2 x (cb hx)
  omega
theorem anQ {α β:Type} (f:α->β) (l:List α) (i:Nat):(l.take i).map f=(l.map f).take i:=by rw [Tw]
structure aiv (n:Net) (m:gL) (k:PK):Prop where
 ok:oO n.ins m.cells.length k
 dK:k.parts.length<=1200
theorem Vx {n:Net} {m:gL} {i:Nat} {p:bU × Int} (hp:p∈(rn n m).take i):p.1∈n.outs/\p.2∈m.ay:=Tq (s4 hp)
theorem afd {n:Net} {m:gL} (hn:eU n) (hm:jI n m) (i:Nat):aiv n m (xk n m i)/\(∀p∈(rn n m).take i,p.1.kind≠1->(p.2=0->(xk n m i).n0=true)/\(p.2=1->(xk n m i).n1=true)) /\
  (∀p∈(rn n m).take i,p.1.kind=1->(xk n m i).bL (lO p.1)≠none):=by
 have a:=agw hn hm (cR m.cells.length)
 have aiw:((rn n m).take i).map (·.1)=n.outs.take i:=by rw [anQ];unfold rn;rw [ae5 hm]
 obtain ⟨b1,b2,b3,b4,b5,b6,b7,b8⟩:=Oq ((rn n m).take i) (xh n m m.cells.length) a.ok (by rw [aiw];exact hn.Lu.sublist (N2 i _))
  (λp hp=>by
   have j4:=(Vx hp).1
   have:=hn.outs _ j4
   exact ⟨this.1,λhk=>(hn.ins _ ((hn.aN _ hk).2 j4)).2⟩)
  (λp hp=>hm.ay _ (Vx hp).2) (λp hp hk=>anP hm _)
 rw [aiw] at b2
 have:=amd n.outs i
 have:=aoP hn
 have:=a.dK
 exact ⟨⟨b1,by show (xk n m i).parts.length<=1200;unfold xk;omega⟩,b7,b4⟩
theorem Wh {n:Net} {m:gL} (hn:eU n) (hm:jI n m) (i:Nat):aiv n m (xk n m i):=(afd hn hm i).1
structure avq (n:Net) (m:gL) (t:TH):Prop where
 ok:oO n.ins m.cells.length t.k
 dK:t.k.parts.length<=2000
 bL:t.k.bL=(qC n m).bL
 thr:∀l u,t.thr l=some u->u.kind=2/\0<=u.n/\u.n < t.k.parts.length
 dl:t.ay.length<=n.outs.length
theorem agx {n:Net} {m:gL} (hn:eU n) (hm:jI n m):oO n.ins m.cells.length (qC n m)/\(qC n m).parts.length<=1202/\(qC n m).n0=(nV n m).n0/\(qC n m).n1=(nV n m).n1/\(sW n m).parts.length<=1201/\(sW n m).n0=(nV n m).n0/\(sW n m).n1=(nV n m).n1/\(qC n m).bL=(nV n m).bL:=by
 have h:=Wh hn hm n.outs.length
 have hf:(nV n m).parts.length<=1200:=h.dK
 obtain ⟨c1,c2,_,c4,c5,c6,c7,c8⟩:=Ot h.ok (v:=0) (.inl rfl) (nV n m).n0
 obtain ⟨d1,d2,_,d4,d5,d6,d7,d8⟩:=Ot c1 (v:=1) (.inr rfl) (nV n m).n1
 have c2:(sW n m).parts.length<=(nV n m).parts.length+1:=c2
 have d2:(qC n m).parts.length<=(sW n m).parts.length+1:=d2
 have c5:(sW n m).n0=(nV n m).n0:=c5
 have c6:(sW n m).n1=(nV n m).n1:=c6
 have d5:(qC n m).n0=(sW n m).n0:=d5
 have d6:(qC n m).n1=(sW n m).n1:=d6
 have c4:(sW n m).bL=(nV n m).bL:=c4
 have d4:(qC n m).bL=(sW n m).bL:=d4
 exact ⟨d1,by omega,d5.trans c5,d6.trans c6,by omega,c5,c6,d4.trans c4⟩
theorem agy {n:Net} {m:gL} (hn:eU n) (hm:jI n m) (i:Nat):avq n m (xl n m i):=by
 obtain ⟨h1,h2,h3,h4,_⟩:=agx hn hm
 have gB:=afd hn hm n.outs.length
 have DI:FL n.ins m.cells.length (qC n m).parts.length ⟨qC n m,[],λ_=>none⟩:=⟨h1,by simp,by simp,λl u hu=>by cases hu⟩
 obtain ⟨f1,_,f3,_,_,f6⟩:=Hl ((rn n m).take i) ⟨qC n m,[],λ_=>none⟩ DI (λp hp=>hm.ay _ (Vx hp).2) (λp hp hk=>by
  have qW:p∈(rn n m).take n.outs.length:=by rw [<-Vw hm,kC];exact s4 hp
  have:=gB.2.1 p qW hk
  show (_->(qC n m).n0=true)/\(_->(qC n m).n1=true)
  rw [h3,h4]
  exact this)
 have g1:=f1.len
 have g2:=ae4 (others n.ins).length (xl n m i).thr
 have g3:(others n.ins).length<=n.ins.length:=AA _ _
 have g4:=hn.pI
 have g5:(others (((rn n m).take i).map (·.1))).length<=n.outs.length:=by
  have h1:(others (((rn n m).take i).map (·.1))).length<=(((rn n m).take i).map (·.1)).length:=AA _ _
  rw [ph,kB,Vw hm] at h1
  omega
 refine ⟨f1.k,?_,f3,f1.thr,by show (xl n m i).ay.length<=_;unfold xl;rw [f6];simpa using g5⟩
 show (xl n m i).k.parts.length<=2000
 unfold xl at g2 ⊢
 omega
def Bn (l:List bU) (i:Nat):List Int->Option Int:=((l.take i).foldl tc (λ_=>none,0)).1
theorem agz:∀(l:List bU) (st:(List Int->Option Int) × Int),(l.foldl tc st).2=st.2+(others l).length
 | [],st=>by simp [others]
 | w :: r,st=>by
  rw [vZ,agz r]
  by_cases hw:w.kind=1
  ·simp [tc,others,hw]
  ·simp [tc,others,hw];omega
theorem apZ (l:List bU):Bn l l.length=wh l:=by unfold Bn;rw [kC];rfl
theorem aeg {l:List bU} {i:Nat} {w:bU} (h:l[i]?=some w) (hk:w.kind=1):Bn l (i+1)=Bn l i/\others (l.take (i+1))=others (l.take i):=by
 refine ⟨?_,by rw [take_one h];simp [others,hk]⟩
 unfold Bn
 rw [Hm _ _ h]
 simp [tc,hk]
theorem aeh {l:List bU} {i:Nat} {w:bU} (h:l[i]?=some w) (hk:w.kind≠1):Bn l (i+1)=(λj=>if j=gC w then some ((others (l.take i)).length:Int) else Bn l i j)/\others (l.take (i+1))=others (l.take i)++[w]:=by
 refine ⟨?_,by rw [take_one h];simp [others,hk]⟩
 unfold Bn
 rw [Hm _ _ h]
 have:=agz (l.take i) (λ_=>none,0)
 simp only [tc,hk,if_false]
 rw [this,Int.zero_add]
 rfl
theorem arh {n:Net} {m:gL} {k:PK} {nc:Nat} (hk:oO n.ins nc k) {g:Int} (h0:0<=g) (h1:g < 2+n.ins.length+nc):qf n.ins k.parts.length (gQ n.ins k.cells g):=Kc hk.cells h0 (by rw [hk.nc];exact h1)
def yi (first:Int) (bL:Int->Option Int) (c0 c1:Int) (s:Source):Int :=
 if s.kind=1 then first+2*(bL s.n).getD 0+1
 else if s.kind=2 then first+2*s.n
 else if s.kind=3 then first+2*(if s.n=0 then c0 else c1)
 else s.n
structure aix where
 s:Source
 ins:List bU
 bL:Int->Option Int
 c0:Int
 c1:Int
structure LZ (y:aix):Prop where
 ins:y.ins.length<=1000000
 flip:y.s.kind=1->∃v,y.bL y.s.n=some v/\0<=v/\v<=1000000
 vD:y.s.kind=2->0<=y.s.n/\y.s.n<=1000000
 con:y.s.kind=3->y.s.n=0\/y.s.n=1
 c0:0<=y.c0/\y.c0<=1000000
 c1:0<=y.c1/\y.c1<=1000000
@[reducible] noncomputable def XE:Vc.Spec where
 α:=aix
 args y:=[.agg (mB y.s),.dF [.sl 3 dk (λ_=>y.ins),.any,.any,.any] 0,.dF [.dF [.any,.any,.any,.any,.any,.any,.any,.any,.any,.mp kF bK (λ_=>y.bL)] 0] 0,.dF [.any,.i .i64 (λ_=>y.c0),.any,.i .i64 (λ_=>y.c1)] 0]
 pre y:=LZ y
 res y:=.i .i64 (λ_=>yi y.ins.length y.bL y.c0 y.c1 y.s)
noncomputable def cNm (n m:Nat):Ctx:=eF n m [] []
theorem asU (n m:Nat):CB PP (cNm n m):=eH n m trivial trivial
theorem ari:cW (PP ()) 169 XE:=by
 refine dT (asU 0 0) (fo Tryz.func169) (λa=>⟨⟨trivial,trivial,trivial⟩,⟨λx=>(gU x).1,trivial,trivial,trivial,trivial⟩,⟨⟨trivial,trivial,trivial,trivial,trivial,trivial,trivial,trivial,trivial,λx=>(cP x).1,trivial⟩,trivial⟩,⟨trivial,trivial,trivial,trivial,trivial⟩,trivial⟩) (λa=>trivial) ?_
 rintro ⟨⟨sk,sn⟩,ins,bL,c0,c1⟩ hx
 have hx:LZ ⟨⟨sk,sn⟩,ins,bL,c0,c1⟩:=hx
 have gY:ins.length<=1000000:=hx.ins
 have zQ:sk=1->∃v,bL sn=some v/\0<=v/\v<=1000000:=hx.flip
 have Rm:sk=2->0<=sn/\sn<=1000000:=hx.vD
 have Zf:sk=3->sn=0\/sn=1:=hx.con
 have mL:0<=c0/\c0<=1000000:=hx.c0
 have lC:0<=c1/\c1<=1000000:=hx.c1
 obtain ⟨R,hR⟩:∃R,yi ins.length bL c0 c1 ⟨sk,sn⟩=R:=⟨_,rfl⟩
 have kp:XE.res ⟨⟨sk,sn⟩,ins,bL,c0,c1⟩=.i .i64 (λ_=>R):=by rw [<-hR]
 rw [kp]
 unfold yi at hR
 simp only at hR
 refine ⟨?_⟩
 cbv
 refine ⟨λh=>?_,λh=>?_⟩
 ·have hk:sk=1:=bG
  rw [if_pos hk] at hR
  refine (zQ hk).elim λv hv=>?_
  rw [hv.1,n6] at hR
  have hw:IntKind.i64.wrap (IntKind.i64.wrap ((ins.length:Int)+IntKind.i64.wrap (2*v))+1)=R:=by rw [cD (n:=2*v) (by omega) (by omega),cD (n:=(ins.length:Int)+2*v) (by omega) (by omega),cD (by omega) (by omega)];exact hR
  cbv
  refine ⟨some (some v),⟨hv.1⟩,?_⟩
  cbv
  exact ⟨by exact aL⟩
 have eX:¬sk=1:=bG
 rw [if_neg eX] at hR
 cbv
 refine ⟨λh=>?_,λh=>?_⟩
 ·have hk:sk=2:=bG
  rw [if_pos hk] at hR
  have hb:=Rm hk
  have hw:IntKind.i64.wrap ((ins.length:Int)+IntKind.i64.wrap (2*sn))=R:=by rw [cD (n:=2*sn) (by omega) (by omega),cD (by omega) (by omega)];exact hR
  cbv
  exact ⟨by exact aL⟩
 have mO:¬sk=2:=bG
 rw [if_neg mO] at hR
 cbv
 refine ⟨λh=>?_,λh=>?_⟩
 ·have hk:sk=3:=bG
  rw [if_pos hk] at hR
  rcases Zf hk with hn|hn
  ·rw [if_pos hn] at hR
   have hw:IntKind.i64.wrap ((ins.length:Int)+IntKind.i64.wrap (2*c0))=R:=by rw [cD (n:=2*c0) (by omega) (by omega),cD (by omega) (by omega)];exact hR
   cbv
   refine ⟨0,⟨hn,by decide⟩,?_⟩
   cbv
   exact ⟨by exact aL⟩
  ·rw [if_neg (by omega)] at hR
   have hw:IntKind.i64.wrap ((ins.length:Int)+IntKind.i64.wrap (2*c1))=R:=by rw [cD (n:=2*c1) (by omega) (by omega),cD (by omega) (by omega)];exact hR
   cbv
   refine ⟨1,⟨hn,by decide⟩,?_⟩
   cbv
   exact ⟨by exact aL⟩
 have nU:¬sk=3:=bG
 rw [if_neg nU] at hR
 cbv
 exact ⟨by exact aL⟩
structure aiy where
 l:List Source
 ins:List bU
 bL:Int->Option Int
 c0:Int
 c1:Int
structure QU (z:aiy):Prop where
 dK:z.l.length<=1000000
 s:∀s∈z.l,LZ ⟨s,z.ins,z.bL,z.c0,z.c1⟩
@[reducible] noncomputable def afe:Vc.Spec where
 α:=aiy
 args z:=[.sl 2 mB (λ_=>z.l),.fn (.func 169) [] [.dF [.sl 3 dk (λ_=>z.ins),.any,.any,.any] 0,.dF [.dF [.any,.any,.any,.any,.any,.any,.any,.any,.any,.mp kF bK (λ_=>z.bL)] 0] 0,.dF [.any,.i .i64 (λ_=>z.c0),.any,.i .i64 (λ_=>z.c1)] 0]]
 pre z:=QU z
 res z:=.sl 1 bK (λ_=>z.l.map (yi z.ins.length z.bL z.c0 z.c1))
 fr:=true
noncomputable def cCn (n m:Nat):Ctx:=eF n m [] [(169,XE)]
theorem agA (n m:Nat):CB PP (cCn n m):=eH n m trivial ⟨ari,trivial⟩
theorem aoQ:cW (PP ()) 172 afe:=by
 refine Pg (agA 0 0) (fo Tryz.func172) (λa=>⟨(λx=>(yU x).1),⟨trivial,⟨λx=>(gU x).1,trivial,trivial,trivial,trivial⟩,⟨⟨trivial,trivial,trivial,trivial,trivial,trivial,trivial,trivial,trivial,λx=>(cP x).1,trivial⟩,trivial⟩,⟨trivial,trivial,trivial,trivial,trivial⟩,trivial⟩,trivial⟩) (λa=>(λx=>(cP x).1)) ?_
 rintro ⟨l,ins,bL,c0,c1⟩ hx
 have hx:QU ⟨l,ins,bL,c0,c1⟩:=hx
 have Zg:l.length<=1000000:=hx.dK
 have z7:∀s∈l,LZ ⟨s,ins,bL,c0,c1⟩:=hx.s
 obtain ⟨f,hf⟩:∃f,f=yi ins.length bL c0 c1:=⟨_,rfl⟩
 have eI:0<=(l.length:Int)/\8*(l.length:Int)<=281474976710656/\(l.length:Int)<=9223372036854775807:=by omega
 refine ⟨?_⟩
 cbv
 refine ⟨⟨by decide,eI.1,eI.2.1,eI.2.2⟩,?_⟩
 cbv
 refine Sat.cd (agA 0 0) 1 5 [(.t 5,0)] (λi:Nat=>[(5,.own 0),(11,.sl 2 mB (λ_=>l)),(12,.i .i64 (λ_=>(l.length:Int))),(13,.i .i64 (λ_=>(i:Int)))]) (λi=>[(0,.dyn 3 1 bK (λ_=>(l.take i).map f))]) (λi=>i<=l.length) (λi=>l.length - i) 0 (by exact ao) (by exact ao) (cL _) ?_
 intro i hi
 have hi:i<=l.length:=hi
 have h0:=n0 i
 have h1:=cj (i:=i) (by omega)
 cbv
 refine ⟨λh=>?_,λh=>?_⟩
 ·have bq:i < l.length:=bG
  have a7:l.length - (i+1) < l.length - i:=by omega
  refine (bB bq).elim λs hs=>?_
  have tD:=z7 s (cb hs)
  have yJ:(l.take i).map f++[f s]=(l.take (i+1)).map f:=by rw [ER hs];simp
  have ef:(((l.take i).map f).length+1)*8<=140737488355328:=by simp;omega
  have nj:((l.take i).map f).length+1<=9223372036854775807:=by simp;omega
  have Ab:yi ins.length bL c0 c1 s=f s:=by rw [hf]
  cbv
  refine ⟨s,⟨h0,hs⟩,?_⟩
  cbv
  refine ⟨⟨s,ins,bL,c0,c1⟩,⟨.inl ⟨by exact bQ,rfl⟩,tD⟩,?_⟩
  cbv
  refine ⟨[f s],⟨by have bm:=Ab;exact cQ,ef,nj⟩,?_⟩
  cbv
  exact ⟨i+1,by exact ao,by have dP:=yJ;exact bI,⟨⟨bq,a7⟩⟩⟩
 ·have bS:i=l.length:=by
   have h':aS i l.length=false:=h.out
   have h2:¬(i:Int) < l.length:=by simpa [aS] using h'
   omega
  have gB:(l.take i).map f=l.map (yi ins.length bL c0 c1):=by rw [bS,kC,hf]
  cbv
  refine ⟨?_⟩
  cbv
  exact ⟨by have dJ:=gB;exact dy,λx=>rfl⟩
def atR (l:List Block):Nat->Int->Option Int
 | 0=>λ_=>none
 | i+1=>λj=>if j=(l.getD i FO).key then some (i:Int) else atR l i j
theorem Up {l:List Block} {i:Nat} {x:Block} (h:l[i]?=some x):(λj=>if j=x.key then some (i:Int) else atR l i j)=atR l (i+1):=by
 show _=λj=>if j=(l.getD i FO).key then some (i:Int) else atR l i j
 rw [ig,h];rfl
theorem Uq {l:List Block}:∀{i:Nat} {k v:Int},i<=l.length->atR l i k=some v->∃j:Nat,v=j/\j < i/\∃x,l[j]?=some x/\x.key=k
 | 0,k,v,_,h=>by cases h
 | i+1,k,v,hi,h=>by
  have hg:l[i]?=some l[i]:=ep (by omega)
  rw [<-Up hg] at h
  simp only at h
  split at h
  ·rename_i e
   cases h
   exact ⟨i,rfl,by omega,_,hg,e.symm⟩
  ·obtain ⟨j,h1,h2,h3⟩:=Uq (by omega) h
   exact ⟨j,h1,by omega,h3⟩
theorem aff {l:List Block}:∀{i:Nat} {j:Nat} {x:Block},i<=l.length->j < i->l[j]?=some x->∃v,atR l i x.key=some v
 | 0,j,x,_,h,_=>by omega
 | i+1,j,x,hi,h,hx=>by
  have hg:l[i]?=some l[i]:=ep (by omega)
  rw [<-Up hg]
  simp only
  split
  ·exact ⟨_,rfl⟩
  ·rename_i e
   refine aff (by omega) ?_ hx
   have:j≠i:=by rintro rfl;rw [hg] at hx;cases hx;exact e rfl
   omega
def MT (p:bt):Int->Option Int:=atR p.blocks p.blocks.length
theorem OZ {p:bt} {k:Int}:(MT p k).isSome=true↔k∈jS p:=by
 unfold MT
 constructor
 ·intro h
  obtain ⟨v,hv⟩:=u5.1 h
  obtain ⟨j,_,_,x,hx,rfl⟩:=Uq (cR _) hv
  exact kf.2 ⟨x,cb hx,rfl⟩
 ·intro h
  obtain ⟨x,hx,rfl⟩:=kf.1 h
  obtain ⟨j,hj⟩:=nC hx
  obtain ⟨v,hv⟩:=aff (cR _) (bY.1 hj).1 hj
  rw [hv];rfl
theorem Vy {p:bt} (hd:y5 p) {k:Int} (h:k∈jS p):∃x,MT p k=some (BO p k:Int)/\p.blocks[BO p k]?=some x/\x.key=k:=by
 obtain ⟨v,hv⟩:=u5.1 (OZ.2 h)
 obtain ⟨j,rfl,_,x,hx,rfl⟩:=Uq (cR _) hv
 rw [Vs hd hx]
 exact ⟨x,hv,hx,rfl⟩
theorem dedup:∀l:List Int,∃ks:List Int,ks.Nodup/\(∀n,n∈ks↔n∈l)/\ks.length<=l.length/\(ks.length=l.length->l.Nodup)/\(l.Nodup->ks=l)
 | []=>⟨[],by simp,by simp,by simp,by simp,by simp⟩
 | a :: r=>by
  obtain ⟨ks,h1,h2,h3,h4,h5⟩:=dedup r
  by_cases ha:a∈r
  ·refine ⟨ks,h1,λn=>?_,by simp;omega,λh=>?_,λh=>?_⟩
   ·rw [h2,ez];exact ⟨.inr,λh=>h.elim (λe=>e ▸ ha) id⟩
   ·simp at h;omega
   ·exact absurd ha (rB.1 h).1
  ·refine ⟨a :: ks,rB.2 ⟨λh=>ha ((h2 a).1 h),h1⟩,λn=>by rw [ez,ez,h2],by simp;omega,λh=>?_,λh=>?_⟩
   ·exact rB.2 ⟨ha,h4 (by simpa using h)⟩
   ·rw [h5 (rB.1 h).2]
def wN (n:Int) (q:bt) (iU:Int->Option Int) (s:Int):Int :=
 if s < q.ins.length then s else n+2*(iU (q.blocks.getD (cN q.ins.length s) FO).key).getD 0+(s - q.ins.length) % 2
theorem ap0 {p q:bt} (hd:y5 p) (hm:∀y∈q.blocks,y.key∈jS p) {s:Int} (h0:0<=s) (h1:s < q.sigs):wN p.ins.length q (MT p) s=rS p q s:=by
 unfold wN rS
 split
 ·rfl
 ·unfold bt.sigs at h1
  have hb:cN q.ins.length s < q.blocks.length:=by unfold cN;omega
  have hy:q.blocks[cN q.ins.length s]?=some q.blocks[cN q.ins.length s]:=ep hb
  rw [ig,hy,n6]
  obtain ⟨x,e,_,_⟩:=Vy hd (hm _ (En hb))
  rw [e];rfl
@[reducible] def kU:KD:=.int .u64
structure aiz where
 s:Int
 p:bt
 q:bt
 iU:Int->Option Int
structure L0 (y:aiz):Prop where
 pi:y.p.ins.length<=1000000
 qi:y.q.ins.length<=1000000
 qb:y.q.blocks.length<=1000000
 lo:0<=y.s
 hi:y.s < y.q.sigs
 iU:∀x∈y.q.blocks,∃v,y.iU x.key=some v/\0<=v/\v<=1000000
@[reducible] noncomputable def Wi:Vc.Spec where
 α:=aiz
 args y:=[.i .i64 (λ_=>y.s),.dF (fB y.q) 0,.dF (fB y.p) 0,.dF [.mp kU bK (λ_=>y.iU)] 0,.dF (fB y.q) 0]
 pre y:=L0 y
 res y:=.i .i64 (λ_=>wN y.p.ins.length y.q y.iU y.s)
noncomputable def cRn (n m:Nat):Ctx:=eF n m [(94,Tryz.f94)] [(95,CM)]
theorem asV (n m:Nat):CB PP (cRn n m):=eH n m ⟨fo Tryz.func94,trivial⟩ ⟨EP,trivial⟩
theorem ap1:cW (PP ()) 93 Wi:=by
 refine dT (asV 0 0) (fo Tryz.func93) (λa=>⟨trivial,kE a.q,kE a.p,⟨(λx=>(cP x).1),trivial⟩,kE a.q,trivial⟩) (λa=>trivial) ?_
 rintro ⟨s,⟨pins,dU,fk,fc⟩,⟨ins,blocks,outs,ay⟩,iU⟩ hx
 have hx:L0 ⟨s,⟨pins,dU,fk,fc⟩,⟨ins,blocks,outs,ay⟩,iU⟩:=hx
 have RS:pins.length<=1000000:=hx.pi
 have hqi:ins.length<=1000000:=hx.qi
 have hqb:blocks.length<=1000000:=hx.qb
 have h0:0<=s:=hx.lo
 have h1:s < (ins.length:Int)+2*(blocks.length:Int):=hx.hi
 have iL:∀x∈blocks,∃v,iU x.key=some v/\0<=v/\v<=1000000:=hx.iU
 obtain ⟨R,hR⟩:∃R,wN pins.length ⟨ins,blocks,outs,ay⟩ iU s=R:=⟨_,rfl⟩
 have kp:Wi.res ⟨s,⟨pins,dU,fk,fc⟩,⟨ins,blocks,outs,ay⟩,iU⟩=.i .i64 (λ_=>R):=by rw [<-hR]
 rw [kp]
 unfold wN at hR
 simp only at hR
 clear hx
 refine ⟨?_⟩
 cbv
 refine ⟨λh=>?_,λh=>?_⟩
 ·have aR:s < (ins.length:Int):=bG
  rw [if_pos aR] at hR
  cbv
  exact ⟨by exact aL⟩
 have bS:¬s < (ins.length:Int):=bG
 rw [if_neg bS] at hR
 have h1:s < (ins.length:Int)+2*(blocks.length:Int):=h1
 obtain ⟨d,hd⟩:∃d:Nat,cN ins.length s=d:=⟨_,rfl⟩
 rw [hd] at hR
 have fH:IntKind.i64.wrap (s - (ins.length:Int))=s - (ins.length:Int):=cD (by omega) (by omega)
 have rf:(s - (ins.length:Int)) / 2=(d:Int):=by rw [<-hd];unfold cN;omega
 have hc:IntKind.i64.wrap ((IntKind.i64.wrap (s - (ins.length:Int))).tdiv 2)=(d:Int):=by
  rw [fH,Ay (by omega),rf];exact cD (by omega) (by omega)
 have hm:(IntKind.i64.wrap (s - (ins.length:Int))).tmod 2=(s - (ins.length:Int)) % 2:=by
  rw [fH,xD (by omega)]
 have fV:d < blocks.length:=by omega
 have pE:¬(d:Int) < 0:=by omega
 obtain ⟨y,hy⟩:=bB fV
 obtain ⟨v,hv,iq,hv6⟩:=iL y (cb hy)
 have Ji:(pins.length:Int)+2*v+(s - (ins.length:Int)) % 2=R:=by
  rw [ig,hy,n6,hv] at hR
  exact hR
 have gE:0<=IntKind.i64.wrap ((IntKind.i64.wrap (s - (ins.length:Int))).tdiv 2)/\blocks[(IntKind.i64.wrap ((IntKind.i64.wrap (s - (ins.length:Int))).tdiv 2)).toNat]?=some y:=by rw [hc];exact ⟨by omega,hy⟩
 clear h hR
 cbv
 refine ⟨⟨by decide⟩,⟨by decide⟩,λh=>?_,λh=>?_⟩
 ·have hF:False:=by have h':aS (IntKind.i64.wrap ((IntKind.i64.wrap (s - (ins.length:Int))).tdiv 2)) 0=true:=h.out;rw [hc] at h';simp only [aS,decide_eq_true_eq] at h';exact pE h'
  cases hF
 clear h
 cbv
 refine ⟨λh=>?_,λh=>?_⟩
 ·have hf:(s - (ins.length:Int)) % 2=1:=by have h':aV ((IntKind.i64.wrap (s - (ins.length:Int))).tmod 2) 1=true:=h.out;rw [hm] at h';simpa [aV] using h'
  have Ji:(pins.length:Int)+2*v+(s - (ins.length:Int)) % 2=R:=Ji
  have hw:IntKind.i64.wrap ((pins.length:Int)+2*v+1)=R:=by rw [cD (by omega) (by omega),<-Ji,hf]
  cbv
  refine ⟨y,⟨gE⟩,?_⟩
  cbv
  refine ⟨some (some v),⟨hv⟩,?_⟩
  cbv
  refine ⟨⟨⟨pins,dU,fk,fc⟩,v⟩,⟨by exact bQ,RS,iq,hv6⟩,?_⟩
  cbv
  exact ⟨by exact aL⟩
 ·have hf:(s - (ins.length:Int)) % 2=0:=by
   have h':aV ((IntKind.i64.wrap (s - (ins.length:Int))).tmod 2) 1=false:=h.out
   rw [hm] at h'
   have:¬(s - (ins.length:Int)) % 2=1:=by simpa [aV] using h'
   omega
  have Ji:(pins.length:Int)+2*v+(s - (ins.length:Int)) % 2=R:=Ji
  have hw:(pins.length:Int)+2*v=R:=by rw [<-Ji,hf,Int.add_zero]
  cbv
  refine ⟨y,⟨gE⟩,?_⟩
  cbv
  refine ⟨some (some v),⟨hv⟩,?_⟩
  cbv
  refine ⟨⟨⟨pins,dU,fk,fc⟩,v⟩,⟨by exact bQ,RS,iq,hv6⟩,?_⟩
  cbv
  exact ⟨by exact aL⟩
structure aiA where
 l:List Int
 p:bt
 q:bt
 iU:Int->Option Int
structure QV (z:aiA):Prop where
 dK:z.l.length<=1000000
 s:∀s∈z.l,L0 ⟨s,z.p,z.q,z.iU⟩
@[reducible] noncomputable def afg:Vc.Spec where
 α:=aiA
 args z:=[.sl 1 bK (λ_=>z.l),.fn (.func 93) [] [.dF (fB z.q) 0,.dF (fB z.p) 0,.dF [.mp kU bK (λ_=>z.iU)] 0,.dF (fB z.q) 0]]
 pre z:=QV z
 res z:=.sl 1 bK (λ_=>z.l.map (wN z.p.ins.length z.q z.iU))
 fr:=true
noncomputable def cCr (n m:Nat):Ctx:=eF n m [] [(93,Wi)]
theorem agB (n m:Nat):CB PP (cCr n m):=eH n m trivial ⟨ap1,trivial⟩
theorem aoR:cW (PP ()) 97 afg:=by
 refine Pg (agB 0 0) (fo Tryz.func97) (λa=>⟨(λx=>(cP x).1),⟨trivial,kE a.q,kE a.p,⟨(λx=>(cP x).1),trivial⟩,kE a.q,trivial⟩,trivial⟩) (λa=>(λx=>(cP x).1)) ?_
 rintro ⟨l,p,q,iU⟩ hx
 have hx:QV ⟨l,p,q,iU⟩:=hx
 have Zg:l.length<=1000000:=hx.dK
 have z7:∀s∈l,L0 ⟨s,p,q,iU⟩:=hx.s
 obtain ⟨f,hf⟩:∃f,f=wN p.ins.length q iU:=⟨_,rfl⟩
 have eI:0<=(l.length:Int)/\8*(l.length:Int)<=281474976710656/\(l.length:Int)<=9223372036854775807:=by omega
 refine ⟨?_⟩
 cbv
 refine ⟨⟨by decide,eI.1,eI.2.1,eI.2.2⟩,?_⟩
 cbv
 refine Sat.cd (agB 0 0) 1 5 [(.t 5,0)] (λi:Nat=>[(5,.own 0),(11,.sl 1 bK (λ_=>l)),(12,.i .i64 (λ_=>(l.length:Int))),(13,.i .i64 (λ_=>(i:Int)))]) (λi=>[(0,.dyn 3 1 bK (λ_=>(l.take i).map f))]) (λi=>i<=l.length) (λi=>l.length - i) 0 (by exact ao) (by exact ao) (cL _) ?_
 intro i hi
 have hi:i<=l.length:=hi
 have h0:=n0 i
 have h1:=cj (i:=i) (by omega)
 cbv
 refine ⟨λh=>?_,λh=>?_⟩
 ·have bq:i < l.length:=bG
  have a7:l.length - (i+1) < l.length - i:=by omega
  refine (bB bq).elim λs hs=>?_
  have tD:=z7 s (cb hs)
  have yJ:(l.take i).map f++[f s]=(l.take (i+1)).map f:=by rw [take_one hs];simp
  have ef:(((l.take i).map f).length+1)*8<=140737488355328:=by simp;omega
  have nj:((l.take i).map f).length+1<=9223372036854775807:=by simp;omega
  have Ab:wN p.ins.length q iU s=f s:=by rw [hf]
  cbv
  refine ⟨s,⟨h0,hs⟩,?_⟩
  cbv
  refine ⟨⟨s,p,q,iU⟩,⟨.inl ⟨by exact bQ,rfl⟩,tD⟩,?_⟩
  cbv
  refine ⟨[f s],⟨by have bm:=Ab;exact cQ,ef,nj⟩,?_⟩
  cbv
  exact ⟨i+1,by exact ao,by have dP:=yJ;exact bI,⟨⟨bq,a7⟩⟩⟩
 ·have bS:i=l.length:=by
   have h':aS i l.length=false:=h.out
   have h2:¬(i:Int) < l.length:=by simpa [aS] using h'
   omega
  have gB:(l.take i).map f=l.map (wN p.ins.length q iU):=by rw [bS,kC,hf]
  cbv
  refine ⟨?_⟩
  cbv
  exact ⟨by have dJ:=gB;exact dy,λx=>rfl⟩
theorem avr {i:Nat} (h:i < 16):IntKind.i64.wrap (1*2^(min ((i:Int)).toNat IntKind.i64.bits))=((2^i:Nat):Int):=by
 have:i=0\/i=1\/i=2\/i=3\/i=4\/i=5\/i=6\/i=7\/i=8\/i=9\/i=10\/i=11\/i=12\/i=13\/i=14\/i=15:=by omega
 rcases this with e|e|e|e|e|e|e|e|e|e|e|e|e|e|e|e<;>subst e<;>rfl
theorem asW {i:Nat} (h:i < 16):2^i < 65536:=by
 have:2^i<=2^15:=Nat.pow_le_pow_right (by decide) (by omega)
 omega
theorem Ur (l:List Bool):∀i,i<=15->∃n:Nat,yd l i=(n:Int)/\n < 2^i
 | 0,_=>⟨0,rfl,by decide⟩
 | i+1,h=>by
  obtain ⟨n,h1,h2⟩:=Ur l i (by omega)
  have hp:=asW (i:=i) (by omega)
  unfold yd
  split
  ·refine ⟨n ||| 2^i,?_,Th (TA h2 (Hg (by decide) (by omega))) (Hg (by decide) (by omega))⟩
   rw [h1,avr (by omega),ahs (by omega) hp]
  ·exact ⟨n,h1,TA h2 (Hg (by decide) (by omega))⟩
theorem ada {l:List Bool} {i:Nat} (h:l[i]?=some true):kT .or .i64 (yd l i) (IntKind.i64.wrap (1*2^(min ((i:Int)).toNat IntKind.i64.bits)))=yd l (i+1):=by
 show _=if l.getD i false then _ else _
 rw [ig,h];rfl
theorem aei {l:List Bool} {i:Nat} (h:l[i]?=some false):yd l i=yd l (i+1):=by
 show _=if l.getD i false then _ else _
 rw [ig,h];rfl
structure avs where
 t:Int
 l:List Bool
@[reducible] noncomputable def Wj:Vc.Spec where
 α:=avs
 args x:=[.i .i64 (λ_=>x.t),.sl 1 jc (λ_=>x.l)]
 pre x:=x.l.length<=1000000
 res x:=.b (λ_=>zt x.t x.l)
noncomputable def cLk (n m:Nat):Ctx:=eF n m [] []
theorem agC (n m:Nat):CB PP (cLk n m):=eH n m trivial trivial
theorem ap2:cW (PP ()) 120 Wj:=by
 refine dT (agC 0 0) (fo Tryz.func120) (λa=>⟨trivial,(λx=>(tY x).1),trivial⟩) (λa=>trivial) ?_
 rintro ⟨t,l⟩ hx
 have Zg:l.length<=1000000:=hx
 obtain ⟨R,hR⟩:∃R,zt t l=R:=⟨_,rfl⟩
 have kp:Wj.res ⟨t,l⟩=.b (λ_=>R):=by rw [<-hR]
 rw [kp]
 unfold zt at hR
 obtain ⟨U,hU⟩:∃U:Nat->Int,∀i,U i=yd l i:=⟨_,λ_=>rfl⟩
 have Zh:0=U 0:=by rw [hU];rfl
 refine ⟨?_⟩
 cbv
 refine ⟨λh=>?_,λh=>?_⟩
 ·have h5:5 < l.length:=by have h':aS 5 (l.length:Int)=true:=h.out;simp only [aS,decide_eq_true_eq] at h';omega
  rw [if_pos h5] at hR
  cbv
  exact ⟨by exact aL⟩
 have h5:¬5 < l.length:=by have h':aS 5 (l.length:Int)=false:=h.out;simp only [aS,decide_eq_false_iff_not] at h';omega
 rw [if_neg h5] at hR
 clear h
 cbv
 refine Sat.cd (agC 0 0) 0 5 [] (λi:Nat=>[(5,.i .i64 (λ_=>U i)),(11,.sl 1 jc (λ_=>l)),(12,.i .i64 (λ_=>(l.length:Int))),(13,.i .i64 (λ_=>(i:Int)))]) (λi=>[]) (λi=>i<=l.length) (λi=>l.length - i) 0 (by have ov:=Zh;exact bI) (by exact ao) (cL _) ?_
 intro i hi
 have hi:i<=l.length:=hi
 have h0:=n0 i
 have h1:=cj (i:=i) (by omega)
 cbv
 refine ⟨λh=>?_,λh=>?_⟩
 ·have bq:i < l.length:=bG
  have a7:l.length - (i+1) < l.length - i:=by omega
  refine (bB bq).elim λb hb=>?_
  cbv
  refine ⟨b,⟨h0,hb⟩,?_⟩
  cbv
  refine ⟨λh=>?_,λh=>?_⟩
  ·have w7:b=true:=h.out
   have cI:kT .or .i64 (U i) (IntKind.i64.wrap (1*2^(min ((i:Int)).toNat IntKind.i64.bits)))=U (i+1):=by rw [hU,hU];exact ada (by rw [hb,w7])
   cbv
   refine ⟨⟨h0⟩,?_⟩
   cbv
   exact ⟨i+1,by have bm:=cI;have lR:=h1;exact bI,by exact ao,⟨⟨bq,a7⟩⟩⟩
  ·have w7:b=false:=h.out
   have cI:U i=U (i+1):=by rw [hU,hU];exact aei (by rw [hb,w7])
   cbv
   exact ⟨i+1,by have bm:=cI;have lR:=h1;exact bI,by exact ao,⟨⟨bq,a7⟩⟩⟩
 have bS:i=l.length:=by
  have h':aS i l.length=false:=h.out
  have h2:¬(i:Int) < l.length:=by simpa [aS] using h'
  omega
 have hU1:0<=U i:=by
  obtain ⟨n,hn,_⟩:=Ur l i (by omega)
  rw [hU,hn];exact GZ _
 have e:aV (kT .and .i64 (t.fdiv (2^(min (U i).toNat IntKind.i64.bits))) 1) 1=R:=by rw [<-hR,hU,bS];rfl
 clear h
 cbv
 refine ⟨⟨hU1⟩,?_⟩
 cbv
 exact ⟨by have jW:=e;exact dy⟩
structure avt where
 s:Int
 out:List Bool
@[reducible] noncomputable def GvS:Vc.Spec where
 α:=avt
 args y:=[.i .i64 (λ_=>y.s),.dF [.sl 1 jc (λ_=>y.out)] 0]
 pre y:=0<=y.s/\y.s.toNat < y.out.length
 res y:=.b (λ_=>y.out.getD y.s.toNat false)
noncomputable def cGv (n m:Nat):Ctx:=eF n m [] []
theorem asX (n m:Nat):CB PP (cGv n m):=eH n m trivial trivial
theorem asY:cW (PP ()) 220 GvS:=by
 refine dT (asX 0 0) (fo Tryz.func220) (λa=>⟨trivial,⟨(λx=>(tY x).1),trivial⟩,trivial⟩) (λa=>trivial) ?_
 rintro ⟨s,out⟩ hx
 obtain ⟨h0,h1⟩:0<=s/\s.toNat < out.length:=hx
 obtain ⟨b,hb⟩:=bB h1
 have e:b=out.getD s.toNat false:=by rw [ig,hb];rfl
 refine ⟨?_⟩
 cbv
 refine ⟨b,⟨h0,hb⟩,?_⟩
 cbv
 exact ⟨by have jW:=e;exact dy⟩
structure aiB where
 l:List Int
 out:List Bool
structure XF (z:aiB):Prop where
 dK:z.l.length<=1000000
 s:∀s∈z.l,0<=s/\s.toNat < z.out.length
@[reducible] noncomputable def afh:Vc.Spec where
 α:=aiB
 args z:=[.sl 1 bK (λ_=>z.l),.fn (.func 220) [] [.dF [.sl 1 jc (λ_=>z.out)] 0]]
 pre z:=XF z
 res z:=.sl 1 jc (λ_=>z.l.map λs=>z.out.getD s.toNat false)
 fr:=true
noncomputable def cCb (n m:Nat):Ctx:=eF n m [] [(220,GvS)]
theorem agD (n m:Nat):CB PP (cCb n m):=eH n m trivial ⟨asY,trivial⟩
theorem aoS:cW (PP ()) 219 afh:=by
 refine Pg (agD 0 0) (fo Tryz.func219) (λa=>⟨(λx=>(cP x).1),⟨trivial,⟨(λx=>(tY x).1),trivial⟩,trivial⟩,trivial⟩) (λa=>(λx=>(tY x).1)) ?_
 rintro ⟨l,out⟩ hx
 have hx:XF ⟨l,out⟩:=hx
 have Zg:l.length<=1000000:=hx.dK
 have z7:∀s∈l,0<=s/\s.toNat < out.length:=hx.s
 obtain ⟨f,hf⟩:∃f:Int->Bool,f=λs=>out.getD s.toNat false:=⟨_,rfl⟩
 have eI:0<=(l.length:Int)/\1*(l.length:Int)<=281474976710656/\(l.length:Int)<=9223372036854775807:=by omega
 refine ⟨?_⟩
 cbv
 refine ⟨⟨by decide,eI.1,eI.2.1,eI.2.2⟩,?_⟩
 cbv
 refine Sat.cd (agD 0 0) 1 5 [(.t 5,0)] (λi:Nat=>[(5,.own 0),(11,.sl 1 bK (λ_=>l)),(12,.i .i64 (λ_=>(l.length:Int))),(13,.i .i64 (λ_=>(i:Int)))]) (λi=>[(0,.dyn 4 1 jc (λ_=>(l.take i).map f))]) (λi=>i<=l.length) (λi=>l.length - i) 0 (by exact ao) (by exact ao) (cL _) ?_
 intro i hi
 have hi:i<=l.length:=hi
 have h0:=n0 i
 have h1:=cj (i:=i) (by omega)
 cbv
 refine ⟨λh=>?_,λh=>?_⟩
 ·have bq:i < l.length:=bG
  have a7:l.length - (i+1) < l.length - i:=by omega
  refine (bB bq).elim λs hs=>?_
  have tD:=z7 s (cb hs)
  have yJ:(l.take i).map f++[f s]=(l.take (i+1)).map f:=by rw [take_one hs];simp
  have ef:(((l.take i).map f).length+1)*1<=140737488355328:=by simp;omega
  have nj:((l.take i).map f).length+1<=9223372036854775807:=by simp;omega
  have Ab:out.getD s.toNat false=f s:=by rw [hf]
  cbv
  refine ⟨s,⟨h0,hs⟩,?_⟩
  cbv
  refine ⟨⟨s,out⟩,⟨.inl ⟨by exact bQ,rfl⟩,tD⟩,?_⟩
  cbv
  refine ⟨[f s],⟨by have jW:=Ab;exact cQ,ef,nj⟩,?_⟩
  cbv
  exact ⟨i+1,by exact ao,by have dP:=yJ;exact bI,⟨⟨bq,a7⟩⟩⟩
 ·have bS:i=l.length:=by
   have h':aS i l.length=false:=h.out
   have h2:¬(i:Int) < l.length:=by simpa [aS] using h'
   omega
  have gB:(l.take i).map f=l.map λs=>out.getD s.toNat false:=by rw [bS,kC,hf]
  cbv
  refine ⟨?_⟩
  cbv
  exact ⟨by have dJ:=gB;exact dy,λx=>rfl⟩
structure mJ (p:bt) (st sig out:List Int):Prop where
 sl:sig.length=p.ins.length+2*p.blocks.length
 ol:out.length=p.blocks.length
 pC:∀s:Nat,s < p.ins.length->sig[s]?=some (K8 p s)
 bh:∀(b:Nat) (x:Block),p.blocks[b]?=some x->0<=x.bh->sig[p.ins.length+2*b]?=some (iw [3,x.bh])/\sig[p.ins.length+2*b+1]?=some (iw [1,x.bh])/\out[b]?=some (iw [1,x.bh])
 done:∀(b:Nat) (x:Block),p.blocks[b]?=some x->x.bh < 0->St st 2 b->sig[p.ins.length+2*b]?=some (sJ p b)/\out[b]?=some (sJ p b)
theorem mJ.aiC {p:bt} {st gH sig out:List Int} (h:mJ p st sig out) (hs:∀c,St gH 2 c->St st 2 c):mJ p gH sig out:=⟨h.sl,h.ol,h.pC,h.bh,λb x hx hr hb=>h.done b x hx hr (hs b hb)⟩
theorem mJ.at {p:bt} {st sig out:List Int} (h:mJ p st sig out) {s:Int} (hu:kD p s) (hd:(p.ins.length:Int)<=s->¬fv p.ins.length s->St st 2 (cN p.ins.length s)):sig.getD s.toNat 0=zH p (sJ p) s:=by
 have h0:=hu.lo
 have h1:=hu.hi
 unfold bt.sigs at h1
 unfold zH
 rw [ig]
 split
 ·rename_i aR
  rw [h.pC s.toNat (by omega),Int.toNat_of_nonneg h0];rfl
 ·rename_i bS
  split
  ·rename_i hf
   obtain ⟨x,hx,hr⟩:=hu.flip (by omega) hf
   have e:s.toNat=p.ins.length+2*cN p.ins.length s+1:=by unfold fv at hf;unfold cN;omega
   rw [e,(h.bh _ x hx hr).2.1]
   unfold HU
   rw [hx];simp [hr]
  ·rename_i hf
   have eb:cN p.ins.length s < p.blocks.length:=by unfold cN;omega
   have e:s.toNat=p.ins.length+2*cN p.ins.length s:=by unfold fv at hf;unfold cN;omega
   have hx:p.blocks[cN p.ins.length s]?=some (p.blocks[cN p.ins.length s]):=ep eb
   unfold FM
   rw [hx,e]
   simp only
   split
   ·rename_i hr;rw [(h.bh _ _ hx hr).1];rfl
   ·rename_i hr;rw [(h.done _ _ hx (by omega) (hd (by omega) hf)).1];rfl
theorem mJ.key {p:bt} {st sig out:List Int} (h:mJ p st sig out) {r:Nat->Nat} (hr:jH p r) {b:Nat} {x:Block} (hx:p.blocks[b]?=some x) (hg:x.bh < 0) (hu:∀s∈x.ins,kD p s) (hd:∀s∈x.ins,(p.ins.length:Int)<=s->¬fv p.ins.length s->St st 2 (cN p.ins.length s)):DK sig x=sJ p b:=by
 have hs:=Uk (Ul hr) b
 show _=sJ p b
 unfold sJ
 rw [hs]
 show _=wM p (sJ p) b
 unfold wM
 rw [hx]
 simp only
 rw [if_neg (by omega)]
 unfold LX DK
 congr 4
 exact vX λs hs=>by rw [h.at (hu s hs) (hd s hs)]
theorem mJ.visit {p:bt} {st sig out:List Int} (h:mJ p st sig out) {r:Nat->Nat} (hr:jH p r) {b:Nat} {x:Block} (hx:p.blocks[b]?=some x) (hb:St st 1 b) (hu:∀s∈x.ins,kD p s) (hd:∀s∈x.ins,(p.ins.length:Int)<=s->¬fv p.ins.length s->St st 2 (cN p.ins.length s)) {y:La} (hy:Lb ⟨p,sig,out,b⟩ y):mJ p (st.set b 2) y.sig y.out:=by
 obtain ⟨z,hz,h1,h2⟩:=hy.ok
 have hz:p.blocks[b]?=some z:=by simpa using hz
 rw [hx] at hz;cases hz
 have aR:=(bY.1 hx).1
 by_cases hg:0<=x.bh
 ·obtain ⟨e1,e2⟩:=h1 hg
  rw [e1,e2]
  refine ⟨h.sl,h.ol,h.pC,h.bh,λc w hw vB hc=>?_⟩
  by_cases gA:c=b
  ·subst gA;rw [hx] at hw;cases hw;omega
  ·exact h.done c w hw vB ((St.rJ gA).1 hc)
 ·obtain ⟨e1,e2⟩:=h2 (by omega)
  rw [h.key hr hx (by omega) hu hd] at e1 e2
  have e1:y.sig=sig.set (p.ins.length+2*b) (sJ p b):=by simpa using e1
  have e2:y.out=out.set b (sJ p b):=by simpa using e2
  rw [e1,e2]
  refine ⟨by simp [h.sl],by simp [h.ol],λs hs=>?_,λc w hw vB=>?_,λc w hw vB hc=>?_⟩
  ·rw [eY (by omega)];exact h.pC s hs
  ·have gA:c≠b:=by rintro rfl;rw [hx] at hw;cases hw;omega
   rw [eY (by omega),eY (by omega),eY (by omega)]
   exact h.bh c w hw vB
  ·by_cases gA:c=b
   ·subst gA
    rw [jb,jb]
    simp [h.sl,h.ol,aR]
   ·rw [eY (by omega),eY (by omega)]
    exact h.done c w hw vB ((St.rJ gA).1 hc)
structure XG where
 p:bt
 st:List Int
 b:Int
 sig:List Int
 out:List Int
 r:Nat->Nat
structure agE where
 res:Bool
 st:List Int
 sig:List Int
 out:List Int
structure Qc (n:Nat) (x:XG):Prop where
 w:xQ x.p
 sh:Shape x.p
 rk:jH x.p x.r
 st:xf x.p x.st
 lo:0<=x.b
 hi:x.b < x.p.blocks.length
 z:lN x.st<=n
 on:∀c,St x.st 1 c->x.r x.b.toNat < x.r c
 key:mJ x.p x.st x.sig x.out
structure KL (x:XG) (y:agE):Prop where
 res:y.res=true
 out:py x.p x.st x.b.toNat true y.st
 key:mJ x.p y.st y.sig y.out
@[reducible] noncomputable def aiD (p:bt) (st sig out:List Int):List Slot :=
 [.fix 35 [.own 1],.dyn 3 1 bK (λ_=>st),.fix 179 (fB p),.fix 180 [.fn (.func 179) [] [.ptr 0 0,.ptr 2 0,.ptr 3 0,.ptr 4 0]],.fix 187 [.fn (.func 100) [] [.ptr 5 0,.ptr 6 0,.ptr 8 0,.ptr 10 0]],
  .fix 57 (fB p),.fix 72 [.own 7],.dyn 74 1 mH (λ_=>sig),.fix 72 [.own 9],.dyn 74 1 mH (λ_=>out),.fix 179 (fB p)]
@[reducible] noncomputable def UZ (n:Nat):na where
 α:=XG
 args x:=[.i .i64 (λ_=>x.b),.ptr 0 0,.ptr 2 0,.ptr 3 0,.ptr 4 0]
 io x:=aiD x.p x.st x.sig x.out
 pre x:=Qc n x
 β:=agE
 post x y:=KL x y
 mv:=[]
 res x y:=.b (λ_=>y.res)
 ko x y:=aiD x.p y.st y.sig y.out
structure EkL where
 j:Nat
 st:List Int
 sig:List Int
 out:List Int
noncomputable def cEk (n m:Nat):Ctx:=eF n m [(94,Tryz.f94),(179,Tryz.f179),(100,Tryz.f100)] [] [179,100]
theorem agF (n m:Nat):CB PP (cEk n m):=eH n m ⟨fo Tryz.func94,fo Tryz.func179,fo Tryz.func100,trivial⟩ trivial
theorem aaR (n:Nat) (ih:∀m,m+1=n->iK PP 179 (UZ m)):iK PP 179 (UZ n):=by
 refine mP (agF 0 0) (fo Tryz.func179) (λa y=>rfl) (λa=>⟨rfl,rfl⟩) .nil ?_
 rintro ⟨⟨ins,blocks,outs,ay⟩,st,b,sig,out,rk⟩ hx
 have hx:Qc n ⟨⟨ins,blocks,outs,ay⟩,st,b,sig,out,rk⟩:=hx
 have hp:=hx.w
 have ej:=hx.sh
 have jD:=hx.rk
 have cI:=hx.st
 have ei:0<=b:=hx.lo
 have eb:b < blocks.length:=hx.hi
 have hz:lN st<=n:=hx.z
 have MU:∀c,St st 1 c->rk b.toNat < rk c:=hx.on
 have r7:=hx.key
 simp only at hp ej jD cI r7
 clear hx
 have aim:st.length=blocks.length:=cI.len
 have jk:0<=b/\b.toNat < st.length:=by omega
 obtain ⟨v,hv⟩:=bB jk.2
 refine ⟨?_⟩
 cbv
 refine ⟨⟨jk⟩,v,⟨hv,rfl⟩,?_⟩
 cbv
 refine ⟨λh=>?_,λh=>?_⟩
 ·have qu:v=1:=bG
  exact absurd (MU b.toNat (by rw [<-qu];exact hv)) (Oc _)
 ·have qu:v≠1:=bG
  cbv
  refine ⟨λh=>?_,λh=>?_⟩
  ·have jV:v=2:=bG
   have bW:KL ⟨⟨ins,blocks,outs,ay⟩,st,b,sig,out,rk⟩ ⟨true,st,sig,out⟩:=⟨rfl,.CS cI (by rw [<-jV];exact hv),r7⟩
   cbv
   exact ⟨⟨true,st,sig,out⟩,[],[],⟨by exact aL,trivial⟩,by exact ao,⟨bW⟩⟩
  ·have jV:v≠2:=bG
   have iq:St st 0 b.toNat:=by
    have:=cI.val _ _ hv
    have e:v=0:=by omega
    rw [<-e];exact hv
   have RD:=TS iq
   refine (⟨n - 1,by omega⟩:∃m,m+1=n).elim λm hm=>?_
   have ih:=ih m hm
   refine (bB (l:=blocks) (i:=b.toNat) (by omega)).elim λx hx=>?_
   have gW:=cb hx
   have yH:∀s∈x.ins,0<=s/\s < (ins.length:Int)+2*blocks.length:=hp.used x gW
   have pD:∀s∈x.ins,kD ⟨ins,blocks,outs,ay⟩ s:=ej.used x gW
   have mu:=hp.k x gW
   have oP:blocks.length<=600:=hp.dK
   have QP:ins.length<=1000000:=hp.ins
   have tN:=oY.start cI iq x
   have FR:mJ ⟨ins,blocks,outs,ay⟩ (st.set b.toNat 1) sig out:=r7.aiC λc hc=>by
    by_cases gA:c=b.toNat
    ·rw [gA] at hc;have:=(St.AX iq.lt).1 hc;omega
    ·exact (St.rJ gA).1 hc
   cbv
   refine ⟨⟨jk⟩,?_⟩
   cbv
   refine ⟨(v,1),⟨hv,rfl,by exact aL⟩,?_⟩
   cbv
   refine ⟨x,⟨ei,hx⟩,?_⟩
   cbv
   refine Sat.cd (agF 0 0) 11 7 [] (λy:EkL=>[(28,.sl 1 bK (λ_=>x.ins)),(29,.i .i64 (λ_=>(x.ins.length:Int))),(30,.i .i64 λ_=>(y.j:Int))]) (λy=>[(1,.dyn 3 1 bK λ_=>y.st),(7,.dyn 74 1 mH λ_=>y.sig),(9,.dyn 74 1 mH λ_=>y.out)])
    (λy=>oY ⟨ins,blocks,outs,ay⟩ st b.toNat x y.j y.st/\mJ ⟨ins,blocks,outs,ay⟩ y.st y.sig y.out) (λy=>x.ins.length - y.j) ⟨0,st.set b.toNat 1,sig,out⟩ (by exact ao) (by exact ao) ⟨tN,FR⟩ ?_
   rintro ⟨j,gZ,tx,dG⟩ ⟨hJ,hK⟩
   have hJ:oY ⟨ins,blocks,outs,ay⟩ st b.toNat x j gZ:=hJ
   have hK:mJ ⟨ins,blocks,outs,ay⟩ gZ tx dG:=hK
   have eE:=hJ.le
   have iO:=n0 j
   have vF:=cj (i:=j) (by omega)
   cbv
   refine ⟨λh=>?_,λh=>?_⟩
   ·have vo:j < x.ins.length:=bG
    have a7:x.ins.length - (j+1) < x.ins.length - j:=by omega
    refine (bB vo).elim λs hs=>?_
    have qy:=yH s (cb hs)
    cbv
    refine ⟨s,⟨iO,hs⟩,?_⟩
    cbv
    refine ⟨λh=>?_,λh=>?_⟩
    ·have aR:s < (ins.length:Int):=bG
     have bA:=hJ.skip hs (λh=>by have:=h.1;simp only at this;omega)
     cbv
     exact ⟨⟨j+1,gZ,tx,dG⟩,by exact ao,by exact ao,⟨⟨⟨bA,hK⟩,a7⟩⟩⟩
    ·have bS:(ins.length:Int)<=s:=bG
     have qy:0<=s/\s < (ins.length:Int)+2*(blocks.length:Int):=qy
     refine (⟨_,rfl⟩:∃d:Nat,cN ins.length s=d).elim λd hd=>?_
     have fH:IntKind.i64.wrap (s - (ins.length:Int))=s - (ins.length:Int):=cD (by omega) (by omega)
     have rf:(s - (ins.length:Int)) / 2=(d:Int):=by rw [<-hd];unfold cN;omega
     have hc:IntKind.i64.wrap ((IntKind.i64.wrap (s - (ins.length:Int))).tdiv 2)=(d:Int):=by
      rw [fH,Ay (by omega),rf];exact cD (by omega) (by omega)
     have hm:(IntKind.i64.wrap (s - (ins.length:Int))).tmod 2=(s - (ins.length:Int)) % 2:=by
      rw [fH,xD (by omega)]
     have fV:d < blocks.length:=by omega
     cbv
     refine ⟨⟨by decide⟩,⟨by decide⟩,λh=>?_,λh=>?_⟩
     ·cbv
      refine ⟨λh=>?_,λh=>?_⟩
      ·have lS:¬fv ins.length s:=by
        have h':(!aV ((IntKind.i64.wrap (s - (ins.length:Int))).tmod 2) 1)=true:=h.out
        rw [hm] at h'
        unfold fv
        simpa [aV] using h'
       have mS:rk d < rk b.toNat:=by
        have:=jD b.toNat x hx s (cb hs) bS lS
        rw [show cN ins.length s=d from hd] at this
        exact this
       have fe:Qc m ⟨⟨ins,blocks,outs,ay⟩,gZ,d,tx,dG,rk⟩:=⟨hp,ej,jD,hJ.w,by show 0<=(d:Int);omega,by show (d:Int) < blocks.length;omega,by have:=hJ.z;show lN gZ<=m;omega,λc hc=>by
        show rk d < rk c
        rcases (hJ.one c).1 hc with h|h
        ·have:=MU c h;omega
        ·rw [h];exact mS,hK⟩
       cbv
       refine bV.jM ih (λa y=>trivial) ⟨⟨ins,blocks,outs,ay⟩,gZ,d,tx,dG,rk⟩ [0,1,2,3,4,5,6,7,8,9,10] rfl (by exact bQ) (by exact ao) ⟨fe⟩ λy hy=>?_
       have hy:KL ⟨⟨ins,blocks,outs,ay⟩,gZ,d,tx,dG,rk⟩ y:=hy.out
       obtain ⟨res,lE,Dc,qV⟩:=y
       have hr:res=true:=hy.res
       have zS:py ⟨ins,blocks,outs,ay⟩ gZ d true lE:=hy.out
       have xm:mJ ⟨ins,blocks,outs,ay⟩ lE Dc qV:=hy.key
       subst hr
       cbv
       refine ⟨λh=>?_,λh=>?_⟩
       ·have h':(!true)=true:=h.out
        cases h'
       ·have bA:=hJ.go hs iq (by rw [show cN ins.length s=d from hd];exact zS)
        cbv
        exact ⟨⟨j+1,lE,Dc,qV⟩,by exact ao,by exact ao,⟨⟨⟨bA,xm⟩,a7⟩⟩⟩
      ·have lS:fv ins.length s:=by
        have h':(!aV ((IntKind.i64.wrap (s - (ins.length:Int))).tmod 2) 1)=false:=h.out
        rw [hm] at h'
        unfold fv
        simpa [aV] using h'
       have bA:=hJ.skip hs (λh=>h.2 lS)
       cbv
       exact ⟨⟨j+1,gZ,tx,dG⟩,by exact ao,by exact ao,⟨⟨⟨bA,hK⟩,a7⟩⟩⟩
     ·exfalso
      have h':cU 0 (IntKind.i64.wrap ((IntKind.i64.wrap (s - (ins.length:Int))).tdiv 2))=false:=h.out
      rw [hc] at h'
      simp only [cU,decide_eq_false_iff_not] at h'
      exact aU
   ·have oq:j=x.ins.length:=by
     have h':aS j x.ins.length=false:=h.out
     have h2:¬(j:Int) < x.ins.length:=by simpa [aS] using h'
     omega
    have bW:=hJ.out hx iq oq
    have zy:St gZ 1 b.toNat:=(hJ.one b.toNat).2 (.inr rfl)
    refine (⟨_,rfl⟩:∃l,gZ.set b.toNat 2=l).elim λlE h3=>?_
    have XH:∀y:La,Lb ⟨⟨ins,blocks,outs,ay⟩,tx,dG,b⟩ y->mJ ⟨ins,blocks,outs,ay⟩ lE y.sig y.out:=λy hy=>by
     rw [<-h3]
     refine hK.visit jD hx zy pD (λs hs h1 h2=>?_) (by rw [show ((b.toNat:Nat):Int)=b by omega];exact hy)
     obtain ⟨i,hi,e⟩:=AD.1 hs
     exact hJ.ins i s (by omega) (by rw [ep hi,e]) h1 h2
    have Zi:V5 ⟨⟨ins,blocks,outs,ay⟩,tx,dG,b⟩:=⟨oP,QP,ei,eb,hK.sl,hK.ol,hp.used,hp.k⟩
    rw [h3] at bW
    have Db:0<=b/\b.toNat < gZ.length:=by have:=hJ.w.len;simp only at this;omega
    refine (bB Db.2).elim λu hu=>?_
    cbv
    refine ⟨⟨Db⟩,?_⟩
    cbv
    refine ⟨(u,2),⟨hu,rfl,by exact aL⟩,?_⟩
    cbv
    refine bV.jM anL (λa y=>trivial) ⟨⟨ins,blocks,outs,ay⟩,tx,dG,b⟩ [5,6,7,8,9,10] rfl (by exact bQ) (by exact ao) ⟨Zi⟩ λy hy=>?_
    have xm:=XH y hy.out
    obtain ⟨Dc,qV⟩:=y
    have HY:KL ⟨⟨ins,blocks,outs,ay⟩,st,b,sig,out,rk⟩ ⟨true,lE,Dc,qV⟩:=⟨rfl,bW,xm⟩
    cbv
    exact ⟨⟨true,lE,Dc,qV⟩,[],[],⟨by exact aL,trivial⟩,by have dP:=h3;exact bI,⟨HY⟩⟩
theorem ab3:∀n,iK PP 179 (UZ n)
 | 0=>aaR 0 λm h=>by omega
 | n+1=>aaR (n+1) λm h=>by
  cases TC h
  exact ab3 n
end Go.Proofs.Pk
