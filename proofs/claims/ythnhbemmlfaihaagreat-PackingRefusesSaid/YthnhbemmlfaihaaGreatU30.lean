import Derived.Test.YthnhbemmlfaihaaGreatU7
import Derived.Test.YthnhbemmlfaihaaGreatU10
import Derived.Test.YthnhbemmlfaihaaGreatU28
import Derived.Test.YthnhbemmlfaihaaGreatU29
set_option linter.unusedVariables false
set_option linter.unusedSimpArgs false
set_option maxRecDepth 10000
set_option maxHeartbeats 64000000
namespace Go.Proofs.Pk
open Go Go.Vc
structure aif where
 x:PR
 c:Cell
structure Xy (y:aif):Prop where
 Bv:eX y.x.n
 w:y.x.w=v9 y.x.n.ins
 parts:y.x.k.parts.length<=100000
 cells:y.x.k.cells.length<=100000
 dK:y.c.ins.length<=100000
 ins:∀g∈y.c.ins,0<=g/\g < 2+y.x.n.ins.length+y.x.k.cells.length
 k:∀x∈y.x.k.parts,x.ins.length<=100000
 src:∀g∈y.c.ins,(gP y.x.n.ins y.x.k.cells g).kind=3->(gP y.x.n.ins y.x.k.cells g).n=0\/(gP y.x.n.ins y.x.k.cells g).n=1
@[reducible] noncomputable def ae2:na where
 α:=aif
 args y:=[.ptr 0 0,.agg (rL y.c)]
 io y:=A4 y.x
 pre y:=Xy y
 β:=Unit
 post x y:=True
 mv:=[2,3]
 res y _:=.dG []
 kx y _:=A4 ⟨y.x.n,y.x.w,jv y.x.n.ins y.x.k y.c⟩
theorem anw {bR:Int} {l:List Source} (h:0<=bR):strip bR (l++[⟨3,0⟩])=strip bR l:=by
 simp [strip,h,xH]
theorem amR {bR:Int} {l:List Source} {s:Source} (h:s≠⟨3,0⟩):strip bR (l++[s])=l++[s]:=by
 unfold strip
 split
 ·simp [xH,h]
 ·rfl
theorem Eu {α:Type} {l:List α} {n:Nat} {x:α} (h:l[n]?=some x):l.take (n+1)=l.take n++[x]:=by
 rw [DT,h];rfl
theorem aot {ins:List bU} {k:PK} {c:Cell} {l:List Source} {R:Int} (hl:strip c.bR (c.ins.map (gP ins k.cells))=l) (hR:x6 c l k.parts=R) (h:0<=R) :
  jv ins k c={ k with cells:=k.cells++[⟨2,R⟩] }:=by
 unfold jv
 simp only [hl]
 unfold x6 at hR
 split at hR
 ·rename_i i hi
  rw [hi,<-hR]
 ·omega
theorem apC {ins:List bU} {k:PK} {c:Cell} {l:List Source} {R:Int} (hl:strip c.bR (c.ins.map (gP ins k.cells))=l) (hR:x6 c l k.parts=R) (h:R < 0) :
  jv ins k c={ (k.add ⟨l,c.table,c.bR,-1⟩) with cells:=k.cells++[k.here],n0:=k.n0||oG 0 l,n1:=k.n1||oG 1 l }:=by
 unfold jv
 simp only [hl]
 unfold x6 at hR
 split at hR
 ·omega
 ·rename_i hi
  rw [hi]
theorem NT {v:Int} {l:List Source} {i:Nat} {x:Source} (h:l[i]?=some x):oG v (l.take (i+1))=(oG v (l.take i)||(x.kind == 3&&x.n == v)):=by
 rw [Eu h];simp [oG]
noncomputable def RP (x:PR) (c:Cell) (l:List Source):Vc.St :=
 ⟨[.ptr 0 0,.agg (rL c),.any,.ptr 5 0,.ptr 7 0]++xS 83,A4 x++[.fix 135 (rL c),.dead,.fix 295 [.sl 2 my (λ_=>l)]]⟩
noncomputable def cCe (n m:Nat):Ctx:=eu n m [(233,Tryz.f233),(168,Tryz.f168)] [(167,KX),(234,QW)] [168] [233] [4]
theorem V7 (n m:Nat):CB PP (cCe n m):=ez n m ⟨fo Tryz.func233,fo Tryz.func168,trivial⟩ ⟨UN,ae1,trivial⟩
noncomputable def au5 (n m:Nat):Ctx:=eu n m [(233,Tryz.f233),(168,Tryz.f168)] [(167,KX),(234,QW)] [168] [233]
theorem Vk (n m:Nat):CB PP (au5 n m):=ez n m ⟨fo Tryz.func233,fo Tryz.func168,trivial⟩ ⟨UN,ae1,trivial⟩
theorem aou:iM PP 165 ae2:=by
 refine mM (V7 0 0) (fo Tryz.func165) (λa y=>rfl) (λa=>⟨rfl,rfl⟩) (by show ([2,3]:List Nat).Nodup;decide) ?_
 rintro ⟨⟨⟨ins,gs,outs,dr⟩,w,⟨parts,cells,fI,fJ,bL⟩⟩,⟨fU,ct,cr⟩⟩ hx
 have hx:Xy ⟨⟨⟨ins,gs,outs,dr⟩,w,⟨parts,cells,fI,fJ,bL⟩⟩,⟨fU,ct,cr⟩⟩:=hx
 have IZ:parts.length<=100000:=hx.parts
 have hc6:cells.length<=100000:=hx.cells
 have iO:fU.length<=100000:=hx.dK
 have wP:∀g∈fU,0<=g/\g < 2+(ins.length:Int)+cells.length:=hx.ins
 obtain ⟨K,hK⟩:∃K,jv ins ⟨parts,cells,fI,fJ,bL⟩ ⟨fU,ct,cr⟩=K:=⟨_,rfl⟩
 have j6:=hx.Bv
 have qp:w=v9 ins:=hx.w
 have Dt:∀x∈parts,x.ins.length<=100000:=hx.k
 obtain ⟨L,hL⟩:∃L,fU.map (gP ins cells)=L:=⟨_,rfl⟩
 have Rz:L.length=fU.length:=by rw [<-hL];simp
 refine ⟨?_⟩
 cbv
 refine ⟨⟨by decide,by exact GI _,by show (16:Int)*(fU.length:Int)<=281474976710656;omega,by show (fU.length:Int)<=9223372036854775807;omega⟩,?_⟩
 cbv
 refine Sat.cf (V7 0 0) 7 10 [(.t 5,6)] (λi:Nat=>[(5,.own 6),(11,.sl 1 bM (λ_=>fU)),(12,.i .i64 (λ_=>(fU.length:Int))),(13,.i .i64 (λ_=>(i:Int)))]) (λi=>[(6,.dyn 302 2 my (λ_=>(fU.take i).map (gP ins cells)))]) (λi=>i<=fU.length) (λi=>fU.length - i) 0 (by exact ao) (by exact ao) (cN _) ?_
 intro i hi
 have hi:i<=fU.length:=hi
 have h0:=n0 i
 have h1:=cq (i:=i) (by omega)
 cbv
 refine ⟨λh=>?_,λh=>?_⟩
 ·have bt:i < fU.length:=bI
  have bh:fU.length - (i+1) < fU.length - i:=by omega
  refine (bD bt).elim λg hg=>?_
  have oQ:=wP g (cb hg)
  have zM:HE ⟨⟨⟨ins,gs,outs,dr⟩,w,⟨parts,cells,fI,fJ,bL⟩⟩,g⟩:=⟨j6,qp,oQ.1,oQ.2,by show cells.length<=1000000;omega⟩
  have yx:(fU.take i).map (gP ins cells)++[gP ins cells g]=(fU.take (i+1)).map (gP ins cells):=by rw [Eu hg];simp
  have mJ:((fU.take i).map (gP ins cells)).length+1<=100001:=by simp;omega
  have eb:(((fU.take i).map (gP ins cells)).length+1)*16<=140737488355328:=by omega
  have nj:((fU.take i).map (gP ins cells)).length+1<=9223372036854775807:=by omega
  cbv
  refine Sat.wU (Vk 0 0) ?_
  cbv
  refine ⟨g,⟨h0,hg⟩,?_⟩
  cbv
  refine ⟨⟨⟨⟨ins,gs,outs,dr⟩,w,⟨parts,cells,fI,fJ,bL⟩⟩,g⟩,⟨.inl ⟨by exact bQ,rfl⟩,zM⟩,?_⟩
  cbv
  refine ⟨[gP ins cells g],⟨by exact bQ,eb,nj⟩,?_⟩
  cbv
  exact ⟨i+1,by exact ao,by have et:=yx;exact bJ,⟨⟨bt,bh⟩⟩⟩
 ·have b9:i=fU.length:=by
   have h':aU i fU.length=false:=h.out
   have h2:¬(i:Int) < fU.length:=by simpa [aU] using h'
   omega
  have hLe:(fU.take i).map (gP ins cells)=L.take L.length:=by rw [b9,lK,lK,hL]
  cbv
  refine Sat.freeze 6 rfl rfl ?_
  refine Sat.cf (V7 0 0) 8 13 [] (λn:Nat=>[]) (λn=>[(7,.fix 295 [.sl 2 my (λ_=>L.take n)])]) (λn=>n<=L.length/\strip cr (L.take n)=strip cr L) (λn=>n) L.length (by exact ao) (by have et:=hLe;have dJ:=hLe;exact bJ) ⟨cR _,by rw [lK]⟩ ?_
  rintro n ⟨hn,cJ⟩
  have hn:n<=L.length:=hn
  have cJ:strip cr (L.take n)=strip cr L:=cJ
  have x8:(L.take n).length=n:=by rw [lJ];omega
  have aih:∀m,n=m+1->0<=cr->L[m]?=some ⟨3,0⟩->m<=L.length/\strip cr (L.take m)=strip cr L:=λm hm h0 hx=>⟨by omega,by rw [<-cJ,hm,Eu hx,anw h0]⟩
  have Qd:cr < 0\/n=0\/(∃m x,n=m+1/\L[m]?=some x/\x≠⟨3,0⟩)->strip cr L=L.take n:=by
   rintro (h|h|⟨m,x,h,hx,cO⟩)
   ·rw [<-cJ,abv h]
   ·rw [<-cJ,h];simp [strip,xH]
   ·rw [<-cJ,h,Eu hx,amR cO]
  obtain ⟨l,oh⟩:∃l,L.take n=l:=⟨_,rfl⟩
  apply B8 (λc k=>∀l:List Source,strip cr L=l->Sat [.ptr 0 0,.fc 1,.any,.any,.fc 4] false PP c (RP ⟨⟨ins,gs,outs,dr⟩,w,⟨parts,cells,fI,fJ,bL⟩⟩ ⟨fU,ct,cr⟩ l) k)
  ·intro tail
   cbv
   refine ⟨λh=>?_,λh=>?_⟩
   ·have hr:0<=cr:=bI
    cbv
    refine ⟨λh=>?_,λh=>?_⟩
    ·have h':aU 0 ((L.take n).length:Int)=true:=h.out
     have qV:0 < n:=by rw [x8] at h';simp only [aU,decide_eq_true_eq] at h';omega
     obtain ⟨m,hm⟩:∃m,n=m+1:=⟨n - 1,by omega⟩
     refine (bD (l:=L) (i:=m) (by omega)).elim λx iI=>?_
     have Dp:IntKind.i64.wrap (((L.take n).length:Int) - 1)=(m:Int):=by rw [x8,cu (by omega) (by omega)];omega
     have gu:0<=IntKind.i64.wrap (((L.take n).length:Int) - 1)/\(L.take n)[(IntKind.i64.wrap (((L.take n).length:Int) - 1)).toNat]?=some x:=by
      rw [Dp];refine ⟨by omega,?_⟩;rw [ox,NX (by omega)];exact iI
     have asC:(0:Int)<=0/\(0:Int)<=IntKind.i64.wrap (((L.take n).length:Int) - 1)/\IntKind.i64.wrap (((L.take n).length:Int) - 1)<=((L.take n).length:Int):=by rw [Dp,x8];omega
     have jm:(((L.take n).take (IntKind.i64.wrap (((L.take n).length:Int) - 1)).toNat).drop (0:Int).toNat)=L.take m:=by
      rw [Dp,ox,Ob,show min m n=m by omega];rfl
     have uu:m < n:=by omega
     cbv
     refine ⟨x,⟨gu⟩,?_⟩
     cbv
     refine ⟨λh=>?_,λh=>?_⟩
     ·have Xz:x=⟨3,0⟩:=by have h:=h.out;simp [aV] at h;cases x;simp at h ⊢;exact h
      have bB:=aih m hm hr (by rw [iI,Xz])
      cbv
      refine ⟨⟨asC⟩,?_⟩
      cbv
      exact ⟨m,by exact ao,by have et:=jm;have dJ:=jm;exact bJ,⟨⟨bB,uu⟩⟩⟩
     ·have Xz:x≠⟨3,0⟩:=by rintro rfl;have h:=h.out;simp [aV] at h
      have hs:=Qd (.inr (.inr ⟨m,x,hm,iI,Xz⟩))
      cbv
      exact kM 8 (RP ⟨⟨ins,gs,outs,dr⟩,w,⟨parts,cells,fI,fJ,bL⟩⟩ ⟨fU,ct,cr⟩ l) (by exact ao) (by exact ao) (tail l (hs.trans oh))
    ·have h':aU 0 ((L.take n).length:Int)=false:=h.out
     have qV:n=0:=by rw [x8] at h';simp only [aU,decide_eq_false_iff_not] at h';omega
     have hs:=Qd (.inr (.inl qV))
     cbv
     exact kM 8 (RP ⟨⟨ins,gs,outs,dr⟩,w,⟨parts,cells,fI,fJ,bL⟩⟩ ⟨fU,ct,cr⟩ l) (by exact ao) (by exact ao) (tail l (hs.trans oh))
   ·have hr:cr < 0:=by have h':cV 0 cr=false:=h.out;simp only [cV,decide_eq_false_iff_not] at h';omega
    have hs:=Qd (.inl hr)
    cbv
    exact kM 8 (RP ⟨⟨ins,gs,outs,dr⟩,w,⟨parts,cells,fI,fJ,bL⟩⟩ ⟨fU,ct,cr⟩ l) (by exact ao) (by exact ao) (tail l (hs.trans oh))
  ·intro l hl
   clear aih Qd
   have oh:l.length<=100000:=by
    have:=abu cr L
    rw [<-hl];omega
   have qR:∀s∈L,s.kind=3->s.n=0\/s.n=1:=by
    intro s hs
    rw [<-hL] at hs
    obtain ⟨g,hg,rfl⟩:=lX.1 hs
    exact hx.src g hg
   have gu:Xw ⟨parts,⟨fU,ct,cr⟩,l⟩:=⟨by show parts.length<=1000000;omega,by show l.length<=1000000;omega,λx hx=>by have:=Dt x hx;show x.ins.length<=1000000;omega⟩
   obtain ⟨R,hR⟩:∃R,x6 ⟨fU,ct,cr⟩ l parts=R:=⟨_,rfl⟩
   have hlc:strip cr (fU.map (gP ins cells))=l:=by rw [hL,hl]
   have hcz:(cells.length+1)*16<=140737488355328:=by omega
   have aii:cells.length+1<=9223372036854775807:=by omega
   have MH:ae2.kx ⟨⟨⟨ins,gs,outs,dr⟩,w,⟨parts,cells,fI,fJ,bL⟩⟩,⟨fU,ct,cr⟩⟩ ()=A4 ⟨⟨ins,gs,outs,dr⟩,w,K⟩:=by rw [<-hK]
   refine Sat.wU (Vk 0 0) ?_
   cbv
   refine ⟨⟨parts,⟨fU,ct,cr⟩,l⟩,⟨.inl ⟨by exact bQ,rfl⟩,gu⟩,?_⟩
   cbv
   refine ⟨λh=>?_,λh=>?_⟩
   ·have MI:0<=R:=by have h':cV 0 (x6 ⟨fU,ct,cr⟩ l parts)=true:=h.out;rw [hR] at h';simpa [cV] using h'
    have qt:=aot (k:=⟨parts,cells,fI,fJ,bL⟩) (c:=⟨fU,ct,cr⟩) hlc hR MI
    rw [hK] at qt
    have e3:cells++[⟨2,R⟩]=(jv ins ⟨parts,cells,fI,fJ,bL⟩ ⟨fU,ct,cr⟩).cells:=by rw [hK,qt]
    have e1:parts=(jv ins ⟨parts,cells,fI,fJ,bL⟩ ⟨fU,ct,cr⟩).parts:=by rw [hK,qt]
    have e2:bL=(jv ins ⟨parts,cells,fI,fJ,bL⟩ ⟨fU,ct,cr⟩).bL:=by rw [hK,qt]
    have e4:fI=(jv ins ⟨parts,cells,fI,fJ,bL⟩ ⟨fU,ct,cr⟩).n0:=by rw [hK,qt]
    have e5:fJ=(jv ins ⟨parts,cells,fI,fJ,bL⟩ ⟨fU,ct,cr⟩).n1:=by rw [hK,qt]
    cbv
    refine ⟨[⟨2,R⟩],⟨by exact bQ,hcz,aii⟩,?_⟩
    cbv
    refine ⟨(),[],[(.c 0 5,2),(.c 0 6,3)],?_,by have ij:=e2;have kR:=e1;have lB:=e3;have et:=e1;have kH:=e3;have oU:=e4;have Bg:=e5;have jJ:=e4;have mN:=e5;exact bJ,⟨trivial⟩⟩
    cbv
    exact ⟨by exact aK,trivial⟩
   ·have MI:R < 0:=by have h':cV 0 (x6 ⟨fU,ct,cr⟩ l parts)=false:=h.out;rw [hR] at h';simp only [cV,decide_eq_false_iff_not] at h';omega
    have qt:=apC (k:=⟨parts,cells,fI,fJ,bL⟩) (c:=⟨fU,ct,cr⟩) hlc hR MI
    rw [hK] at qt
    cbv
    refine Sat.cf (Vk 0 0) 8 5 [] (λx:Nat × Bool × Bool=>[(55,.sl 2 my (λ_=>l)),(56,.i .i64 (λ_=>(l.length:Int))),(57,.i .i64 (λ_=>(x.1:Int)))])
     (λx=>[(0,.fix 298 [.sl 3 dm (λ_=>ins),.sl 5 dD (λ_=>gs),.sl 3 dm (λ_=>outs),.sl 1 bM (λ_=>dr),.fc 1,.own 2,.own 3,.b (λ_=>x.2.1),.b (λ_=>x.2.2),.fc 4])])
     (λx=>x.1<=l.length/\x.2.1=(fI||oG 0 (l.take x.1))/\x.2.2=(fJ||oG 1 (l.take x.1))) (λx=>l.length - x.1) (0,fI,fJ) (by exact ao) (by exact ao) ⟨cN _,by simp [oG],by simp [oG]⟩ ?_
    rintro ⟨i,b0,b1⟩ ⟨hi,ef,jx⟩
    have hi:i<=l.length:=hi
    have ef:b0=(fI||oG 0 (l.take i)):=ef
    have jx:b1=(fJ||oG 1 (l.take i)):=jx
    have h0:=n0 i
    have h1:=cq (i:=i) (by omega)
    cbv
    refine ⟨λh=>?_,λh=>?_⟩
    ·have bt:i < l.length:=bI
     have bh:l.length - (i+1) < l.length - i:=by omega
     refine (bD bt).elim λx qj=>?_
     have RQ:x.kind=3->x.n=0\/x.n=1:=qR x (by rw [<-hl] at qj;exact abt x (cb qj))
     have eA:¬x.kind=3->i+1<=l.length/\b0=(fI||oG 0 (l.take (i+1)))/\b1=(fJ||oG 1 (l.take (i+1))):=λhk=>by
      have YN:(x.kind == 3)=false:=beq_eq_false_iff_ne.2 hk
      refine ⟨bt,?_,?_⟩
      ·rw [NT qj,ef,YN,Tn,Tq]
      ·rw [NT qj,jx,YN,Tn,Tq]
     have h00:x.kind=3->x.n=0->i+1<=l.length/\true=(fI||oG 0 (l.take (i+1)))/\b1=(fJ||oG 1 (l.take (i+1))):=λhk hn=>by
      refine ⟨bt,?_,?_⟩<;>simp [NT qj,jx,hk,hn]
     have zJ:x.kind=3->x.n=1->i+1<=l.length/\b0=(fI||oG 0 (l.take (i+1)))/\true=(fJ||oG 1 (l.take (i+1))):=λhk hn=>by
      refine ⟨bt,?_,?_⟩<;>simp [NT qj,ef,hk,hn]
     cbv
     refine ⟨x,⟨h0,qj⟩,?_⟩
     cbv
     refine ⟨λh=>?_,λh=>?_⟩
     ·have mQ:x.kind=3:=bI
      rcases RQ mQ with hn|hn
      ·have bB:=h00 mQ hn
       cbv
       refine ⟨0,⟨hn,by decide⟩,?_⟩
       cbv
       exact ⟨(i+1,true,b1),by exact ao,by exact ao,⟨⟨bB,bh⟩⟩⟩
      ·have bB:=zJ mQ hn
       cbv
       refine ⟨1,⟨hn,by decide⟩,?_⟩
       cbv
       exact ⟨(i+1,b0,true),by exact ao,by exact ao,⟨⟨bB,bh⟩⟩⟩
     ·have mQ:¬x.kind=3:=bI
      have bB:=eA mQ
      cbv
      exact ⟨(i+1,b0,b1),by exact ao,by exact ao,⟨⟨bB,bh⟩⟩⟩
    ·have b9:i=l.length:=by
      have h':aU i l.length=false:=h.out
      have h2:¬(i:Int) < l.length:=by simpa [aU] using h'
      omega
     rw [b9,lK] at ef jx
     have F7:parts.length<=1000000:=by omega
     have e1:(PK.add ⟨parts,cells,b0,b1,bL⟩ ⟨l,ct,cr,-1⟩).parts=(jv ins ⟨parts,cells,fI,fJ,bL⟩ ⟨fU,ct,cr⟩).parts:=by rw [hK,qt];rfl
     have e2:(PK.add ⟨parts,cells,b0,b1,bL⟩ ⟨l,ct,cr,-1⟩).bL=(jv ins ⟨parts,cells,fI,fJ,bL⟩ ⟨fU,ct,cr⟩).bL:=by rw [hK,qt];rfl
     have e3:(PK.add ⟨parts,cells,b0,b1,bL⟩ ⟨l,ct,cr,-1⟩).cells++[⟨2,(parts.length:Int)⟩]=(jv ins ⟨parts,cells,fI,fJ,bL⟩ ⟨fU,ct,cr⟩).cells:=by rw [hK,qt];rfl
     have e4:b0=(jv ins ⟨parts,cells,fI,fJ,bL⟩ ⟨fU,ct,cr⟩).n0:=by rw [hK,qt,ef]
     have e5:b1=(jv ins ⟨parts,cells,fI,fJ,bL⟩ ⟨fU,ct,cr⟩).n1:=by rw [hK,qt,jx]
     cbv
     refine bV.io Cd ⟨⟨⟨ins,gs,outs,dr⟩,w,⟨parts,cells,b0,b1,bL⟩⟩,⟨l,ct,cr,-1⟩⟩ [0,1,2,3,4] rfl (by exact bQ) (by exact ao) ⟨F7⟩ λ_ _=>?_
     cbv
     refine ⟨[⟨2,(parts.length:Int)⟩],⟨by exact bQ,hcz,aii⟩,?_⟩
     cbv
     refine ⟨(),[],[(.c 0 5,2),(.c 0 6,3)],?_,by have ij:=e2;have kR:=e1;have lB:=e3;have et:=e1;have kH:=e3;have oU:=e4;have Bg:=e5;have jJ:=e4;have mN:=e5;exact bJ,⟨trivial⟩⟩
     cbv
     exact ⟨by exact aK,trivial⟩
def xd (n:Net) (m:gD) (i:Nat):PK:=(m.cells.take i).foldl (jv n.ins) ⟨[],[],false,false,λ_=>none⟩
def rf (n:Net) (m:gD):List (bU × Int):=n.outs.zip m.ay
def xe (n:Net) (m:gD) (i:Nat):PK:=((rf n m).take i).foldl (oN n.ins) (xd n m m.cells.length)
def nR (n:Net) (m:gD):PK:=xe n m n.outs.length
def sM (n:Net) (m:gD):PK:=oD (nR n m) 0 (nR n m).n0
def qu (n:Net) (m:gD):PK:=oD (sM n m) 1 (nR n m).n1
def RS (n:Net) (m:gD):Int:=if (nR n m).n0 then (nR n m).parts.length else 0
def RT (n:Net) (m:gD):Int:=if (nR n m).n1 then (sM n m).parts.length else 0
def xf (n:Net) (m:gD) (i:Nat):TH:=((rf n m).take i).foldl (nJ n.ins) ⟨qu n m,[],λ_=>none⟩
theorem take_one {α:Type} {l:List α} {i:Nat} {x:α} (h:l[i]?=some x):l.take (i+1)=l.take i++[x]:=by
 rw [DT,h];rfl
theorem J2 {α β:Type} (f:β->α->β) (b:β) {l:List α} {i:Nat} {x:α} (h:l[i]?=some x):(l.take (i+1)).foldl f b=f ((l.take i).foldl f b) x:=by
 rw [take_one h,N5];rfl
theorem apD {n:Net} {m:gD} {i:Nat} {c:Cell} (h:m.cells[i]?=some c):xd n m (i+1)=jv n.ins (xd n m i) c:=J2 _ _ h
theorem agm {n:Net} {m:gD} {i:Nat} {w:bU} {d:Int} (hw:n.outs[i]?=some w) (hd:m.ay[i]?=some d):(rf n m)[i]?=some (w,d):=by
 unfold rf;rw [aaU];exact ⟨hw,hd⟩
theorem apE {n:Net} {m:gD} {i:Nat} {w:bU} {d:Int} (hw:n.outs[i]?=some w) (hd:m.ay[i]?=some d):xe n m (i+1)=oN n.ins (xe n m i) (w,d):=J2 _ _ (agm hw hd)
theorem apF {n:Net} {m:gD} {i:Nat} {w:bU} {d:Int} (hw:n.outs[i]?=some w) (hd:m.ay[i]?=some d):xf n m (i+1)=nJ n.ins (xf n m i) (w,d):=J2 _ _ (agm hw hd)
theorem Vl {n:Net} {m:gD} (hm:jG n m):(rf n m).length=n.outs.length:=by
 unfold rf;rw [List.length_zip,hm.p8,Nat.min_self]
theorem aov {n:Net} {m:gD} (hm:jG n m):oH n m=⟨RS n m,RT n m,xf n m n.outs.length⟩:=by
 have e1:xd n m m.cells.length=m.cells.foldl (jv n.ins) ⟨[],[],false,false,λ_=>none⟩:=by unfold xd;rw [lK]
 have e2:(rf n m).take n.outs.length=n.outs.zip m.ay:=by rw [<-Vl hm,lK];rfl
 have e3:nR n m=(n.outs.zip m.ay).foldl (oN n.ins) (m.cells.foldl (jv n.ins) ⟨[],[],false,false,λ_=>none⟩):=by unfold nR xe;rw [e2,e1]
 unfold oH RS RT xf qu sM
 rw [e2,e3]
theorem aow {n:Net} (hn:eX n):(qK n.outs).length<=600:=by
 have:=acL hn
 have:=hn.pF
 omega
theorem al3 (l:List bU) (i:Nat):(qK (l.take i)).length<=(qK l).length:=by
 have h:(qK (l.take i)).Sublist (qK l):=(N4 i l).filter _
 exact h.length_le
structure au6 (n:Net) (i:Nat) (k:PK):Prop where
 ok:oO n.ins i k
 dK:k.parts.length<=600
theorem agn {n:Net} {m:gD} (hn:eX n) (hm:jG n m) {i:Nat} (hi:i<=m.cells.length):au6 n i (xd n m i):=by
 obtain ⟨h1,h2,h3⟩:=NS hm i hi
 have:=hm.dK
 have:=hn.pF
 exact ⟨h1,by show (xd n m i).parts.length<=600;unfold xd;omega⟩
theorem anx {n:Net} {m:gD} (hm:jG n m) (c:Int):(xd n m m.cells.length).bL c=none:=by
 obtain ⟨a1,a2,a3⟩:=NS hm m.cells.length (cR _)
 unfold xd
 cases hc:((m.cells.take m.cells.length).foldl (jv n.ins) ⟨[],[],false,false,λ_=>none⟩).bL c with
 | none=>rfl
 | some v =>
  obtain ⟨b,_,x,hx,hr,h0⟩:=a1.back c v hc
  have:=a2 x (cb hx)
  omega
theorem anz {α β:Type} (f:α->β) (l:List α) (i:Nat):(l.take i).map f=(l.map f).take i:=by rw [Tp]
structure aij (n:Net) (m:gD) (k:PK):Prop where
 ok:oO n.ins m.cells.length k
 dK:k.parts.length<=1200
theorem Vm {n:Net} {m:gD} {i:Nat} {p:bU × Int} (hp:p∈(rf n m).take i):p.1∈n.outs/\p.2∈m.ay:=List.of_mem_zip (sQ hp)
theorem ae3 {n:Net} {m:gD} (hn:eX n) (hm:jG n m) (i:Nat):aij n m (xe n m i)/\(∀p∈(rf n m).take i,p.1.kind≠1->(p.2=0->(xe n m i).n0=true)/\(p.2=1->(xe n m i).n1=true)) /\
  (∀p∈(rf n m).take i,p.1.kind=1->(xe n m i).bL (lN p.1)≠none):=by
 have a:=agn hn hm (cR m.cells.length)
 have aik:((rf n m).take i).map (·.1)=n.outs.take i:=by rw [anz];unfold rf;rw [aeU hm]
 obtain ⟨b1,b2,b3,b4,b5,b6,b7,b8⟩:=Ot ((rf n m).take i) (xd n m m.cells.length) a.ok (by rw [aik];exact hn.Lh.sublist (N4 i _))
  (λp hp=>by
   have j8:=(Vm hp).1
   have:=hn.outs _ j8
   exact ⟨this.1,λhk=>(hn.ins _ ((hn.aM _ hk).2 j8)).2⟩)
  (λp hp=>hm.ay _ (Vm hp).2) (λp hp hk=>anx hm _)
 rw [aik] at b2
 have:=al3 n.outs i
 have:=aow hn
 have:=a.dK
 exact ⟨⟨b1,by show (xe n m i).parts.length<=1200;unfold xe;omega⟩,b7,b4⟩
theorem V8 {n:Net} {m:gD} (hn:eX n) (hm:jG n m) (i:Nat):aij n m (xe n m i):=(ae3 hn hm i).1
structure au7 (n:Net) (m:gD) (t:TH):Prop where
 ok:oO n.ins m.cells.length t.k
 dK:t.k.parts.length<=2000
 bL:t.k.bL=(qu n m).bL
 thr:∀l u,t.thr l=some u->u.kind=2/\0<=u.n/\u.n < t.k.parts.length
 dl:t.ay.length<=n.outs.length
theorem ago {n:Net} {m:gD} (hn:eX n) (hm:jG n m):oO n.ins m.cells.length (qu n m)/\(qu n m).parts.length<=1202/\(qu n m).n0=(nR n m).n0/\(qu n m).n1=(nR n m).n1/\(sM n m).parts.length<=1201/\(sM n m).n0=(nR n m).n0/\(sM n m).n1=(nR n m).n1/\(qu n m).bL=(nR n m).bL:=by
 have h:=V8 hn hm n.outs.length
 have hf:(nR n m).parts.length<=1200:=h.dK
 obtain ⟨c1,c2,_,c4,c5,c6,c7,c8⟩:=Ou h.ok (v:=0) (.inl rfl) (nR n m).n0
 obtain ⟨d1,d2,_,d4,d5,d6,d7,d8⟩:=Ou c1 (v:=1) (.inr rfl) (nR n m).n1
 have c2:(sM n m).parts.length<=(nR n m).parts.length+1:=c2
 have d2:(qu n m).parts.length<=(sM n m).parts.length+1:=d2
 have c5:(sM n m).n0=(nR n m).n0:=c5
 have c6:(sM n m).n1=(nR n m).n1:=c6
 have d5:(qu n m).n0=(sM n m).n0:=d5
 have d6:(qu n m).n1=(sM n m).n1:=d6
 have c4:(sM n m).bL=(nR n m).bL:=c4
 have d4:(qu n m).bL=(sM n m).bL:=d4
 exact ⟨d1,by omega,d5.trans c5,d6.trans c6,by omega,c5,c6,d4.trans c4⟩
theorem agp {n:Net} {m:gD} (hn:eX n) (hm:jG n m) (i:Nat):au7 n m (xf n m i):=by
 obtain ⟨h1,h2,h3,h4,_⟩:=ago hn hm
 have gF:=ae3 hn hm n.outs.length
 have Dr:Fp n.ins m.cells.length (qu n m).parts.length ⟨qu n m,[],λ_=>none⟩:=⟨h1,by simp,by simp,λl u hu=>by cases hu⟩
 obtain ⟨f1,_,f3,_,_,f6⟩:=G6 ((rf n m).take i) ⟨qu n m,[],λ_=>none⟩ Dr (λp hp=>hm.ay _ (Vm hp).2) (λp hp hk=>by
  have qU:p∈(rf n m).take n.outs.length:=by rw [<-Vl hm,lK];exact sQ hp
  have:=gF.2.1 p qU hk
  show (_->(qu n m).n0=true)/\(_->(qu n m).n1=true)
  rw [h3,h4]
  exact this)
 have g1:=f1.len
 have g2:=aeT (others n.ins).length (xf n m i).thr
 have g3:(others n.ins).length<=n.ins.length:=Am _ _
 have g4:=hn.pF
 have g5:(others (((rf n m).take i).map (·.1))).length<=n.outs.length:=by
  have h1:(others (((rf n m).take i).map (·.1))).length<=(((rf n m).take i).map (·.1)).length:=Am _ _
  rw [qJ,lJ,Vl hm] at h1
  omega
 refine ⟨f1.k,?_,f3,f1.thr,by show (xf n m i).ay.length<=_;unfold xf;rw [f6];simpa using g5⟩
 show (xf n m i).k.parts.length<=2000
 unfold xf at g2 ⊢
 omega
def A5 (l:List bU) (i:Nat):List Int->Option Int:=((l.take i).foldl s4 (λ_=>none,0)).1
theorem agq:∀(l:List bU) (st:(List Int->Option Int) × Int),(l.foldl s4 st).2=st.2+(others l).length
 | [],st=>by simp [others]
 | w :: r,st=>by
  rw [As,agq r]
  by_cases hw:w.kind=1
  ·simp [s4,others,hw]
  ·simp [s4,others,hw];omega
theorem apG (l:List bU):A5 l l.length=v9 l:=by unfold A5;rw [lK];rfl
theorem ad5 {l:List bU} {i:Nat} {w:bU} (h:l[i]?=some w) (hk:w.kind=1):A5 l (i+1)=A5 l i/\others (l.take (i+1))=others (l.take i):=by
 refine ⟨?_,by rw [take_one h];simp [others,hk]⟩
 unfold A5
 rw [J2 _ _ h]
 simp [s4,hk]
theorem ad6 {l:List bU} {i:Nat} {w:bU} (h:l[i]?=some w) (hk:w.kind≠1):A5 l (i+1)=(λj=>if j=gG w then some ((others (l.take i)).length:Int) else A5 l i j)/\others (l.take (i+1))=others (l.take i)++[w]:=by
 refine ⟨?_,by rw [take_one h];simp [others,hk]⟩
 unfold A5
 rw [J2 _ _ h]
 have:=agq (l.take i) (λ_=>none,0)
 simp only [s4,hk,if_false]
 rw [this,Int.zero_add]
 rfl
theorem aqX {n:Net} {m:gD} {k:PK} {nc:Nat} (hk:oO n.ins nc k) {g:Int} (h0:0<=g) (h1:g < 2+n.ins.length+nc):pZ n.ins k.parts.length (gP n.ins k.cells g):=J0 hk.cells h0 (by rw [hk.nc];exact h1)
def x7 (first:Int) (bL:Int->Option Int) (c0 c1:Int) (s:Source):Int :=
 if s.kind=1 then first+2*(bL s.n).getD 0+1
 else if s.kind=2 then first+2*s.n
 else if s.kind=3 then first+2*(if s.n=0 then c0 else c1)
 else s.n
structure ail where
 s:Source
 ins:List bU
 bL:Int->Option Int
 c0:Int
 c1:Int
structure LM (y:ail):Prop where
 ins:y.ins.length<=1000000
 flip:y.s.kind=1->∃v,y.bL y.s.n=some v/\0<=v/\v<=1000000
 vw:y.s.kind=2->0<=y.s.n/\y.s.n<=1000000
 con:y.s.kind=3->y.s.n=0\/y.s.n=1
 c0:0<=y.c0/\y.c0<=1000000
 c1:0<=y.c1/\y.c1<=1000000
@[reducible] noncomputable def XA:Vc.Spec where
 α:=ail
 args y:=[.agg (my y.s),.dE [.sl 3 dm (λ_=>y.ins),.any,.any,.any] 0,.dE [.dE [.any,.any,.any,.any,.any,.any,.any,.any,.any,.mp kF bM (λ_=>y.bL)] 0] 0,.dE [.any,.i .i64 (λ_=>y.c0),.any,.i .i64 (λ_=>y.c1)] 0]
 pre y:=LM y
 res y:=.i .i64 (λ_=>x7 y.ins.length y.bL y.c0 y.c1 y.s)
noncomputable def cNm (n m:Nat):Ctx:=eu n m [] []
theorem asD (n m:Nat):CB PP (cNm n m):=ez n m trivial trivial
theorem aqY:cZ (PP ()) 169 XA:=by
 refine dT (asD 0 0) (fo Tryz.func169) (λa=>⟨⟨trivial,trivial,trivial⟩,⟨λx=>(gS x).1,trivial,trivial,trivial,trivial⟩,⟨⟨trivial,trivial,trivial,trivial,trivial,trivial,trivial,trivial,trivial,λx=>(cQ x).1,trivial⟩,trivial⟩,⟨trivial,trivial,trivial,trivial,trivial⟩,trivial⟩) (λa=>trivial) ?_
 rintro ⟨⟨sk,sn⟩,ins,bL,c0,c1⟩ hx
 have hx:LM ⟨⟨sk,sn⟩,ins,bL,c0,c1⟩:=hx
 have iO:ins.length<=1000000:=hx.ins
 have zC:sk=1->∃v,bL sn=some v/\0<=v/\v<=1000000:=hx.flip
 have IG:sk=2->0<=sn/\sn<=1000000:=hx.vw
 have Y8:sk=3->sn=0\/sn=1:=hx.con
 have mI:0<=c0/\c0<=1000000:=hx.c0
 have lz:0<=c1/\c1<=1000000:=hx.c1
 obtain ⟨R,hR⟩:∃R,x7 ins.length bL c0 c1 ⟨sk,sn⟩=R:=⟨_,rfl⟩
 have mS:XA.res ⟨⟨sk,sn⟩,ins,bL,c0,c1⟩=.i .i64 (λ_=>R):=by rw [<-hR]
 rw [mS]
 unfold x7 at hR
 simp only at hR
 refine ⟨?_⟩
 cbv
 refine ⟨λh=>?_,λh=>?_⟩
 ·have hk:sk=1:=bI
  rw [if_pos hk] at hR
  refine (zC hk).elim λv hv=>?_
  rw [hv.1,pe] at hR
  have hw:IntKind.i64.wrap (IntKind.i64.wrap ((ins.length:Int)+IntKind.i64.wrap (2*v))+1)=R:=by rw [cu (n:=2*v) (by omega) (by omega),cu (n:=(ins.length:Int)+2*v) (by omega) (by omega),cu (by omega) (by omega)];exact hR
  cbv
  refine ⟨some (some v),⟨hv.1⟩,?_⟩
  cbv
  exact ⟨by exact aK⟩
 have eT:¬sk=1:=bI
 rw [if_neg eT] at hR
 cbv
 refine ⟨λh=>?_,λh=>?_⟩
 ·have hk:sk=2:=bI
  rw [if_pos hk] at hR
  have hb:=IG hk
  have hw:IntKind.i64.wrap ((ins.length:Int)+IntKind.i64.wrap (2*sn))=R:=by rw [cu (n:=2*sn) (by omega) (by omega),cu (by omega) (by omega)];exact hR
  cbv
  exact ⟨by exact aK⟩
 have lP:¬sk=2:=bI
 rw [if_neg lP] at hR
 cbv
 refine ⟨λh=>?_,λh=>?_⟩
 ·have hk:sk=3:=bI
  rw [if_pos hk] at hR
  rcases Y8 hk with hn|hn
  ·rw [if_pos hn] at hR
   have hw:IntKind.i64.wrap ((ins.length:Int)+IntKind.i64.wrap (2*c0))=R:=by rw [cu (n:=2*c0) (by omega) (by omega),cu (by omega) (by omega)];exact hR
   cbv
   refine ⟨0,⟨hn,by decide⟩,?_⟩
   cbv
   exact ⟨by exact aK⟩
  ·rw [if_neg (by omega)] at hR
   have hw:IntKind.i64.wrap ((ins.length:Int)+IntKind.i64.wrap (2*c1))=R:=by rw [cu (n:=2*c1) (by omega) (by omega),cu (by omega) (by omega)];exact hR
   cbv
   refine ⟨1,⟨hn,by decide⟩,?_⟩
   cbv
   exact ⟨by exact aK⟩
 have mQ:¬sk=3:=bI
 rw [if_neg mQ] at hR
 cbv
 exact ⟨by exact aK⟩
structure aim where
 l:List Source
 ins:List bU
 bL:Int->Option Int
 c0:Int
 c1:Int
structure QX (z:aim):Prop where
 dK:z.l.length<=1000000
 s:∀s∈z.l,LM ⟨s,z.ins,z.bL,z.c0,z.c1⟩
@[reducible] noncomputable def ae4:Vc.Spec where
 α:=aim
 args z:=[.sl 2 my (λ_=>z.l),.fn (.func 169) [] [.dE [.sl 3 dm (λ_=>z.ins),.any,.any,.any] 0,.dE [.dE [.any,.any,.any,.any,.any,.any,.any,.any,.any,.mp kF bM (λ_=>z.bL)] 0] 0,.dE [.any,.i .i64 (λ_=>z.c0),.any,.i .i64 (λ_=>z.c1)] 0]]
 pre z:=QX z
 res z:=.sl 1 bM (λ_=>z.l.map (x7 z.ins.length z.bL z.c0 z.c1))
 fr:=true
noncomputable def cCn (n m:Nat):Ctx:=eu n m [] [(169,XA)]
theorem agr (n m:Nat):CB PP (cCn n m):=ez n m trivial ⟨aqY,trivial⟩
theorem aox:cZ (PP ()) 172 ae4:=by
 refine Ph (agr 0 0) (fo Tryz.func172) (λa=>⟨(λx=>(yH x).1),⟨trivial,⟨λx=>(gS x).1,trivial,trivial,trivial,trivial⟩,⟨⟨trivial,trivial,trivial,trivial,trivial,trivial,trivial,trivial,trivial,λx=>(cQ x).1,trivial⟩,trivial⟩,⟨trivial,trivial,trivial,trivial,trivial⟩,trivial⟩,trivial⟩) (λa=>(λx=>(cQ x).1)) ?_
 rintro ⟨l,ins,bL,c0,c1⟩ hx
 have hx:QX ⟨l,ins,bL,c0,c1⟩:=hx
 have Y9:l.length<=1000000:=hx.dK
 have zK:∀s∈l,LM ⟨s,ins,bL,c0,c1⟩:=hx.s
 obtain ⟨f,hf⟩:∃f,f=x7 ins.length bL c0 c1:=⟨_,rfl⟩
 have e9:0<=(l.length:Int)/\8*(l.length:Int)<=281474976710656/\(l.length:Int)<=9223372036854775807:=by omega
 refine ⟨?_⟩
 cbv
 refine ⟨⟨by decide,e9.1,e9.2.1,e9.2.2⟩,?_⟩
 cbv
 refine Sat.cf (agr 0 0) 1 5 [(.t 5,0)] (λi:Nat=>[(5,.own 0),(11,.sl 2 my (λ_=>l)),(12,.i .i64 (λ_=>(l.length:Int))),(13,.i .i64 (λ_=>(i:Int)))]) (λi=>[(0,.dyn 3 1 bM (λ_=>(l.take i).map f))]) (λi=>i<=l.length) (λi=>l.length - i) 0 (by exact ao) (by exact ao) (cN _) ?_
 intro i hi
 have hi:i<=l.length:=hi
 have h0:=n0 i
 have h1:=cq (i:=i) (by omega)
 cbv
 refine ⟨λh=>?_,λh=>?_⟩
 ·have bt:i < l.length:=bI
  have bh:l.length - (i+1) < l.length - i:=by omega
  refine (bD bt).elim λs hs=>?_
  have vu:=zK s (cb hs)
  have yx:(l.take i).map f++[f s]=(l.take (i+1)).map f:=by rw [Eu hs];simp
  have eb:(((l.take i).map f).length+1)*8<=140737488355328:=by simp;omega
  have nj:((l.take i).map f).length+1<=9223372036854775807:=by simp;omega
  have zP:x7 ins.length bL c0 c1 s=f s:=by rw [hf]
  cbv
  refine ⟨s,⟨h0,hs⟩,?_⟩
  cbv
  refine ⟨⟨s,ins,bL,c0,c1⟩,⟨.inl ⟨by exact bQ,rfl⟩,vu⟩,?_⟩
  cbv
  refine ⟨[f s],⟨by have bg:=zP;exact cP,eb,nj⟩,?_⟩
  cbv
  exact ⟨i+1,by exact ao,by have et:=yx;exact bJ,⟨⟨bt,bh⟩⟩⟩
 ·have b9:i=l.length:=by
   have h':aU i l.length=false:=h.out
   have h2:¬(i:Int) < l.length:=by simpa [aU] using h'
   omega
  have gF:(l.take i).map f=l.map (x7 ins.length bL c0 c1):=by rw [b9,lK,hf]
  cbv
  refine ⟨?_⟩
  cbv
  exact ⟨by have dJ:=gF;exact dx,λx=>rfl⟩
def atR (l:List Block):Nat->Int->Option Int
 | 0=>λ_=>none
 | i+1=>λj=>if j=(l.getD i LH).key then some (i:Int) else atR l i j
theorem Uh {l:List Block} {i:Nat} {x:Block} (h:l[i]?=some x):(λj=>if j=x.key then some (i:Int) else atR l i j)=atR l (i+1):=by
 show _=λj=>if j=(l.getD i LH).key then some (i:Int) else atR l i j
 rw [iE,h];rfl
theorem Ui {l:List Block}:∀{i:Nat} {k v:Int},i<=l.length->atR l i k=some v->∃j:Nat,v=j/\j < i/\∃x,l[j]?=some x/\x.key=k
 | 0,k,v,_,h=>by cases h
 | i+1,k,v,hi,h=>by
  have hg:l[i]?=some l[i]:=eo (by omega)
  rw [<-Uh hg] at h
  simp only at h
  split at h
  ·rename_i e
   cases h
   exact ⟨i,rfl,by omega,_,hg,e.symm⟩
  ·obtain ⟨j,h1,h2,h3⟩:=Ui (by omega) h
   exact ⟨j,h1,by omega,h3⟩
theorem ae5 {l:List Block}:∀{i:Nat} {j:Nat} {x:Block},i<=l.length->j < i->l[j]?=some x->∃v,atR l i x.key=some v
 | 0,j,x,_,h,_=>by omega
 | i+1,j,x,hi,h,hx=>by
  have hg:l[i]?=some l[i]:=eo (by omega)
  rw [<-Uh hg]
  simp only
  split
  ·exact ⟨_,rfl⟩
  ·rename_i e
   refine ae5 (by omega) ?_ hx
   have:j≠i:=by rintro rfl;rw [hg] at hx;cases hx;exact e rfl
   omega
def MJ (p:bC):Int->Option Int:=atR p.blocks p.blocks.length
theorem OZ {p:bC} {k:Int}:(MJ p k).isSome=true↔k∈gE p:=by
 unfold MJ
 constructor
 ·intro h
  obtain ⟨v,hv⟩:=uT.1 h
  obtain ⟨j,_,_,x,hx,rfl⟩:=Ui (cR _) hv
  exact lX.2 ⟨x,cb hx,rfl⟩
 ·intro h
  obtain ⟨x,hx,rfl⟩:=lX.1 h
  obtain ⟨j,hj⟩:=nX hx
  obtain ⟨v,hv⟩:=ae5 (cR _) (bW.1 hj).1 hj
  rw [hv];rfl
theorem Vn {p:bC} (hd:xD p) {k:Int} (h:k∈gE p):∃x,MJ p k=some (Bx p k:Int)/\p.blocks[Bx p k]?=some x/\x.key=k:=by
 obtain ⟨v,hv⟩:=uT.1 (OZ.2 h)
 obtain ⟨j,rfl,_,x,hx,rfl⟩:=Ui (cR _) hv
 rw [Ku hd hx]
 exact ⟨x,hv,hx,rfl⟩
theorem dedup:∀l:List Int,∃ks:List Int,ks.Nodup/\(∀n,n∈ks↔n∈l)/\ks.length<=l.length/\(ks.length=l.length->l.Nodup)/\(l.Nodup->ks=l)
 | []=>⟨[],by simp,by simp,by simp,by simp,by simp⟩
 | a :: r=>by
  obtain ⟨ks,h1,h2,h3,h4,h5⟩:=dedup r
  by_cases ha:a∈r
  ·refine ⟨ks,h1,λn=>?_,by simp;omega,λh=>?_,λh=>?_⟩
   ·rw [h2,eB];exact ⟨.inr,λh=>h.elim (λe=>e ▸ ha) id⟩
   ·simp at h;omega
   ·exact absurd ha (sd.1 h).1
  ·refine ⟨a :: ks,sd.2 ⟨λh=>ha ((h2 a).1 h),h1⟩,λn=>by rw [eB,eB,h2],by simp;omega,λh=>?_,λh=>?_⟩
   ·exact sd.2 ⟨ha,h4 (by simpa using h)⟩
   ·rw [h5 (sd.1 h).2]
def wK (n:Int) (q:bC) (iU:Int->Option Int) (s:Int):Int :=
 if s < q.ins.length then s else n+2*(iU (q.blocks.getD (cS q.ins.length s) LH).key).getD 0+(s - q.ins.length) % 2
theorem apH {p q:bC} (hd:xD p) (hm:∀y∈q.blocks,y.key∈gE p) {s:Int} (h0:0<=s) (h1:s < q.sigs):wK p.ins.length q (MJ p) s=oM p q s:=by
 unfold wK oM
 split
 ·rfl
 ·unfold bC.sigs at h1
  have hb:cS q.ins.length s < q.blocks.length:=by unfold cS;omega
  have hy:q.blocks[cS q.ins.length s]?=some q.blocks[cS q.ins.length s]:=eo hb
  rw [iE,hy,pe]
  obtain ⟨x,e,_,_⟩:=Vn hd (hm _ (GJ hb))
  rw [e];rfl
@[reducible] def kU:KD:=.int .u64
structure ain where
 s:Int
 p:bC
 q:bC
 iU:Int->Option Int
structure LO (y:ain):Prop where
 pi:y.p.ins.length<=1000000
 qi:y.q.ins.length<=1000000
 qb:y.q.blocks.length<=1000000
 lo:0<=y.s
 hi:y.s < y.q.sigs
 iU:∀x∈y.q.blocks,∃v,y.iU x.key=some v/\0<=v/\v<=1000000
@[reducible] noncomputable def V9:Vc.Spec where
 α:=ain
 args y:=[.i .i64 (λ_=>y.s),.dE (fH y.q) 0,.dE (fH y.p) 0,.dE [.mp kU bM (λ_=>y.iU)] 0,.dE (fH y.q) 0]
 pre y:=LO y
 res y:=.i .i64 (λ_=>wK y.p.ins.length y.q y.iU y.s)
noncomputable def cRn (n m:Nat):Ctx:=eu n m [(94,Tryz.f94)] [(95,Cx)]
theorem asE (n m:Nat):CB PP (cRn n m):=ez n m ⟨fo Tryz.func94,trivial⟩ ⟨Et,trivial⟩
theorem apI:cZ (PP ()) 93 V9:=by
 refine dT (asE 0 0) (fo Tryz.func93) (λa=>⟨trivial,kD a.q,kD a.p,⟨(λx=>(cQ x).1),trivial⟩,kD a.q,trivial⟩) (λa=>trivial) ?_
 rintro ⟨s,⟨pins,dQ,fq,fg⟩,⟨ins,blocks,outs,ay⟩,iU⟩ hx
 have hx:LO ⟨s,⟨pins,dQ,fq,fg⟩,⟨ins,blocks,outs,ay⟩,iU⟩:=hx
 have RU:pins.length<=1000000:=hx.pi
 have hqi:ins.length<=1000000:=hx.qi
 have hqb:blocks.length<=1000000:=hx.qb
 have h0:0<=s:=hx.lo
 have h1:s < (ins.length:Int)+2*(blocks.length:Int):=hx.hi
 have iT:∀x∈blocks,∃v,iU x.key=some v/\0<=v/\v<=1000000:=hx.iU
 obtain ⟨R,hR⟩:∃R,wK pins.length ⟨ins,blocks,outs,ay⟩ iU s=R:=⟨_,rfl⟩
 have mS:V9.res ⟨s,⟨pins,dQ,fq,fg⟩,⟨ins,blocks,outs,ay⟩,iU⟩=.i .i64 (λ_=>R):=by rw [<-hR]
 rw [mS]
 unfold wK at hR
 simp only at hR
 clear hx
 refine ⟨?_⟩
 cbv
 refine ⟨λh=>?_,λh=>?_⟩
 ·have aR:s < (ins.length:Int):=bI
  rw [if_pos aR] at hR
  cbv
  exact ⟨by exact aK⟩
 have b9:¬s < (ins.length:Int):=bI
 rw [if_neg b9] at hR
 have h1:s < (ins.length:Int)+2*(blocks.length:Int):=h1
 obtain ⟨d,hd⟩:∃d:Nat,cS ins.length s=d:=⟨_,rfl⟩
 rw [hd] at hR
 have gh:IntKind.i64.wrap (s - (ins.length:Int))=s - (ins.length:Int):=cu (by omega) (by omega)
 have q9:(s - (ins.length:Int)) / 2=(d:Int):=by rw [<-hd];unfold cS;omega
 have hc:IntKind.i64.wrap ((IntKind.i64.wrap (s - (ins.length:Int))).tdiv 2)=(d:Int):=by
  rw [gh,Ak (by omega),q9];exact cu (by omega) (by omega)
 have hm:(IntKind.i64.wrap (s - (ins.length:Int))).tmod 2=(s - (ins.length:Int)) % 2:=by
  rw [gh,qI (by omega)]
 have fV:d < blocks.length:=by omega
 have pA:¬(d:Int) < 0:=by omega
 obtain ⟨y,hy⟩:=bD fV
 obtain ⟨v,hv,ik,hv6⟩:=iT y (cb hy)
 have I1:(pins.length:Int)+2*v+(s - (ins.length:Int)) % 2=R:=by
  rw [iE,hy,pe,hv] at hR
  exact hR
 have gu:0<=IntKind.i64.wrap ((IntKind.i64.wrap (s - (ins.length:Int))).tdiv 2)/\blocks[(IntKind.i64.wrap ((IntKind.i64.wrap (s - (ins.length:Int))).tdiv 2)).toNat]?=some y:=by rw [hc];exact ⟨by omega,hy⟩
 clear h hR
 cbv
 refine ⟨⟨by decide⟩,⟨by decide⟩,λh=>?_,λh=>?_⟩
 ·have hF:False:=by have h':aU (IntKind.i64.wrap ((IntKind.i64.wrap (s - (ins.length:Int))).tdiv 2)) 0=true:=h.out;rw [hc] at h';simp only [aU,decide_eq_true_eq] at h';exact pA h'
  cases hF
 clear h
 cbv
 refine ⟨λh=>?_,λh=>?_⟩
 ·have hf:(s - (ins.length:Int)) % 2=1:=by have h':aV ((IntKind.i64.wrap (s - (ins.length:Int))).tmod 2) 1=true:=h.out;rw [hm] at h';simpa [aV] using h'
  have I1:(pins.length:Int)+2*v+(s - (ins.length:Int)) % 2=R:=I1
  have hw:IntKind.i64.wrap ((pins.length:Int)+2*v+1)=R:=by rw [cu (by omega) (by omega),<-I1,hf]
  cbv
  refine ⟨y,⟨gu⟩,?_⟩
  cbv
  refine ⟨some (some v),⟨hv⟩,?_⟩
  cbv
  refine ⟨⟨⟨pins,dQ,fq,fg⟩,v⟩,⟨by exact bQ,RU,ik,hv6⟩,?_⟩
  cbv
  exact ⟨by exact aK⟩
 ·have hf:(s - (ins.length:Int)) % 2=0:=by
   have h':aV ((IntKind.i64.wrap (s - (ins.length:Int))).tmod 2) 1=false:=h.out
   rw [hm] at h'
   have:¬(s - (ins.length:Int)) % 2=1:=by simpa [aV] using h'
   omega
  have I1:(pins.length:Int)+2*v+(s - (ins.length:Int)) % 2=R:=I1
  have hw:(pins.length:Int)+2*v=R:=by rw [<-I1,hf,Int.add_zero]
  cbv
  refine ⟨y,⟨gu⟩,?_⟩
  cbv
  refine ⟨some (some v),⟨hv⟩,?_⟩
  cbv
  refine ⟨⟨⟨pins,dQ,fq,fg⟩,v⟩,⟨by exact bQ,RU,ik,hv6⟩,?_⟩
  cbv
  exact ⟨by exact aK⟩
structure aio where
 l:List Int
 p:bC
 q:bC
 iU:Int->Option Int
structure QY (z:aio):Prop where
 dK:z.l.length<=1000000
 s:∀s∈z.l,LO ⟨s,z.p,z.q,z.iU⟩
@[reducible] noncomputable def ae6:Vc.Spec where
 α:=aio
 args z:=[.sl 1 bM (λ_=>z.l),.fn (.func 93) [] [.dE (fH z.q) 0,.dE (fH z.p) 0,.dE [.mp kU bM (λ_=>z.iU)] 0,.dE (fH z.q) 0]]
 pre z:=QY z
 res z:=.sl 1 bM (λ_=>z.l.map (wK z.p.ins.length z.q z.iU))
 fr:=true
noncomputable def cCr (n m:Nat):Ctx:=eu n m [] [(93,V9)]
theorem ags (n m:Nat):CB PP (cCr n m):=ez n m trivial ⟨apI,trivial⟩
theorem aoy:cZ (PP ()) 97 ae6:=by
 refine Ph (ags 0 0) (fo Tryz.func97) (λa=>⟨(λx=>(cQ x).1),⟨trivial,kD a.q,kD a.p,⟨(λx=>(cQ x).1),trivial⟩,kD a.q,trivial⟩,trivial⟩) (λa=>(λx=>(cQ x).1)) ?_
 rintro ⟨l,p,q,iU⟩ hx
 have hx:QY ⟨l,p,q,iU⟩:=hx
 have Y9:l.length<=1000000:=hx.dK
 have zK:∀s∈l,LO ⟨s,p,q,iU⟩:=hx.s
 obtain ⟨f,hf⟩:∃f,f=wK p.ins.length q iU:=⟨_,rfl⟩
 have e9:0<=(l.length:Int)/\8*(l.length:Int)<=281474976710656/\(l.length:Int)<=9223372036854775807:=by omega
 refine ⟨?_⟩
 cbv
 refine ⟨⟨by decide,e9.1,e9.2.1,e9.2.2⟩,?_⟩
 cbv
 refine Sat.cf (ags 0 0) 1 5 [(.t 5,0)] (λi:Nat=>[(5,.own 0),(11,.sl 1 bM (λ_=>l)),(12,.i .i64 (λ_=>(l.length:Int))),(13,.i .i64 (λ_=>(i:Int)))]) (λi=>[(0,.dyn 3 1 bM (λ_=>(l.take i).map f))]) (λi=>i<=l.length) (λi=>l.length - i) 0 (by exact ao) (by exact ao) (cN _) ?_
 intro i hi
 have hi:i<=l.length:=hi
 have h0:=n0 i
 have h1:=cq (i:=i) (by omega)
 cbv
 refine ⟨λh=>?_,λh=>?_⟩
 ·have bt:i < l.length:=bI
  have bh:l.length - (i+1) < l.length - i:=by omega
  refine (bD bt).elim λs hs=>?_
  have vu:=zK s (cb hs)
  have yx:(l.take i).map f++[f s]=(l.take (i+1)).map f:=by rw [take_one hs];simp
  have eb:(((l.take i).map f).length+1)*8<=140737488355328:=by simp;omega
  have nj:((l.take i).map f).length+1<=9223372036854775807:=by simp;omega
  have zP:wK p.ins.length q iU s=f s:=by rw [hf]
  cbv
  refine ⟨s,⟨h0,hs⟩,?_⟩
  cbv
  refine ⟨⟨s,p,q,iU⟩,⟨.inl ⟨by exact bQ,rfl⟩,vu⟩,?_⟩
  cbv
  refine ⟨[f s],⟨by have bg:=zP;exact cP,eb,nj⟩,?_⟩
  cbv
  exact ⟨i+1,by exact ao,by have et:=yx;exact bJ,⟨⟨bt,bh⟩⟩⟩
 ·have b9:i=l.length:=by
   have h':aU i l.length=false:=h.out
   have h2:¬(i:Int) < l.length:=by simpa [aU] using h'
   omega
  have gF:(l.take i).map f=l.map (wK p.ins.length q iU):=by rw [b9,lK,hf]
  cbv
  refine ⟨?_⟩
  cbv
  exact ⟨by have dJ:=gF;exact dx,λx=>rfl⟩
theorem au8 {i:Nat} (h:i < 16):IntKind.i64.wrap (1*2^(min ((i:Int)).toNat IntKind.i64.bits))=((2^i:Nat):Int):=by
 have:i=0\/i=1\/i=2\/i=3\/i=4\/i=5\/i=6\/i=7\/i=8\/i=9\/i=10\/i=11\/i=12\/i=13\/i=14\/i=15:=by omega
 rcases this with e|e|e|e|e|e|e|e|e|e|e|e|e|e|e|e<;>subst e<;>rfl
theorem asF {i:Nat} (h:i < 16):2^i < 65536:=by
 have:2^i<=2^15:=Nat.pow_le_pow_right (by decide) (by omega)
 omega
theorem Uj (l:List Bool):∀i,i<=15->∃n:Nat,x4 l i=(n:Int)/\n < 2^i
 | 0,_=>⟨0,rfl,by decide⟩
 | i+1,h=>by
  obtain ⟨n,h1,h2⟩:=Uj l i (by omega)
  have hp:=asF (i:=i) (by omega)
  unfold x4
  split
  ·refine ⟨n ||| 2^i,?_,Td (Tt h2 (GD (by decide) (by omega))) (GD (by decide) (by omega))⟩
   rw [h1,au8 (by omega),ahi (by omega) hp]
  ·exact ⟨n,h1,Tt h2 (GD (by decide) (by omega))⟩
theorem acX {l:List Bool} {i:Nat} (h:l[i]?=some true):jd .or .i64 (x4 l i) (IntKind.i64.wrap (1*2^(min ((i:Int)).toNat IntKind.i64.bits)))=x4 l (i+1):=by
 show _=if l.getD i false then _ else _
 rw [iE,h];rfl
theorem ad7 {l:List Bool} {i:Nat} (h:l[i]?=some false):x4 l i=x4 l (i+1):=by
 show _=if l.getD i false then _ else _
 rw [iE,h];rfl
structure au9 where
 t:Int
 l:List Bool
@[reducible] noncomputable def Wa:Vc.Spec where
 α:=au9
 args x:=[.i .i64 (λ_=>x.t),.sl 1 jb (λ_=>x.l)]
 pre x:=x.l.length<=1000000
 res x:=.b (λ_=>zc x.t x.l)
noncomputable def cLk (n m:Nat):Ctx:=eu n m [] []
theorem agt (n m:Nat):CB PP (cLk n m):=ez n m trivial trivial
theorem apJ:cZ (PP ()) 120 Wa:=by
 refine dT (agt 0 0) (fo Tryz.func120) (λa=>⟨trivial,(λx=>(tP x).1),trivial⟩) (λa=>trivial) ?_
 rintro ⟨t,l⟩ hx
 have Y9:l.length<=1000000:=hx
 obtain ⟨R,hR⟩:∃R,zc t l=R:=⟨_,rfl⟩
 have mS:Wa.res ⟨t,l⟩=.b (λ_=>R):=by rw [<-hR]
 rw [mS]
 unfold zc at hR
 obtain ⟨U,hU⟩:∃U:Nat->Int,∀i,U i=x4 l i:=⟨_,λ_=>rfl⟩
 have Za:0=U 0:=by rw [hU];rfl
 refine ⟨?_⟩
 cbv
 refine ⟨λh=>?_,λh=>?_⟩
 ·have h5:5 < l.length:=by have h':aU 5 (l.length:Int)=true:=h.out;simp only [aU,decide_eq_true_eq] at h';omega
  rw [if_pos h5] at hR
  cbv
  exact ⟨by exact aK⟩
 have h5:¬5 < l.length:=by have h':aU 5 (l.length:Int)=false:=h.out;simp only [aU,decide_eq_false_iff_not] at h';omega
 rw [if_neg h5] at hR
 clear h
 cbv
 refine Sat.cf (agt 0 0) 0 5 [] (λi:Nat=>[(5,.i .i64 (λ_=>U i)),(11,.sl 1 jb (λ_=>l)),(12,.i .i64 (λ_=>(l.length:Int))),(13,.i .i64 (λ_=>(i:Int)))]) (λi=>[]) (λi=>i<=l.length) (λi=>l.length - i) 0 (by have om:=Za;exact bJ) (by exact ao) (cN _) ?_
 intro i hi
 have hi:i<=l.length:=hi
 have h0:=n0 i
 have h1:=cq (i:=i) (by omega)
 cbv
 refine ⟨λh=>?_,λh=>?_⟩
 ·have bt:i < l.length:=bI
  have bh:l.length - (i+1) < l.length - i:=by omega
  refine (bD bt).elim λb hb=>?_
  cbv
  refine ⟨b,⟨h0,hb⟩,?_⟩
  cbv
  refine ⟨λh=>?_,λh=>?_⟩
  ·have wX:b=true:=h.out
   have cJ:jd .or .i64 (U i) (IntKind.i64.wrap (1*2^(min ((i:Int)).toNat IntKind.i64.bits)))=U (i+1):=by rw [hU,hU];exact acX (by rw [hb,wX])
   cbv
   refine ⟨⟨h0⟩,?_⟩
   cbv
   exact ⟨i+1,by have bg:=cJ;have lQ:=h1;exact bJ,by exact ao,⟨⟨bt,bh⟩⟩⟩
  ·have wX:b=false:=h.out
   have cJ:U i=U (i+1):=by rw [hU,hU];exact ad7 (by rw [hb,wX])
   cbv
   exact ⟨i+1,by have bg:=cJ;have lQ:=h1;exact bJ,by exact ao,⟨⟨bt,bh⟩⟩⟩
 have b9:i=l.length:=by
  have h':aU i l.length=false:=h.out
  have h2:¬(i:Int) < l.length:=by simpa [aU] using h'
  omega
 have hU1:0<=U i:=by
  obtain ⟨n,hn,_⟩:=Uj l i (by omega)
  rw [hU,hn];exact GI _
 have e:aV (jd .and .i64 (t.fdiv (2^(min (U i).toNat IntKind.i64.bits))) 1) 1=R:=by rw [<-hR,hU,b9];rfl
 clear h
 cbv
 refine ⟨⟨hU1⟩,?_⟩
 cbv
 exact ⟨by have jJ:=e;exact dx⟩
structure ava where
 s:Int
 out:List Bool
@[reducible] noncomputable def GvS:Vc.Spec where
 α:=ava
 args y:=[.i .i64 (λ_=>y.s),.dE [.sl 1 jb (λ_=>y.out)] 0]
 pre y:=0<=y.s/\y.s.toNat < y.out.length
 res y:=.b (λ_=>y.out.getD y.s.toNat false)
noncomputable def cGv (n m:Nat):Ctx:=eu n m [] []
theorem asG (n m:Nat):CB PP (cGv n m):=ez n m trivial trivial
theorem asH:cZ (PP ()) 220 GvS:=by
 refine dT (asG 0 0) (fo Tryz.func220) (λa=>⟨trivial,⟨(λx=>(tP x).1),trivial⟩,trivial⟩) (λa=>trivial) ?_
 rintro ⟨s,out⟩ hx
 obtain ⟨h0,h1⟩:0<=s/\s.toNat < out.length:=hx
 obtain ⟨b,hb⟩:=bD h1
 have e:b=out.getD s.toNat false:=by rw [iE,hb];rfl
 refine ⟨?_⟩
 cbv
 refine ⟨b,⟨h0,hb⟩,?_⟩
 cbv
 exact ⟨by have jJ:=e;exact dx⟩
structure aip where
 l:List Int
 out:List Bool
structure XB (z:aip):Prop where
 dK:z.l.length<=1000000
 s:∀s∈z.l,0<=s/\s.toNat < z.out.length
@[reducible] noncomputable def ae7:Vc.Spec where
 α:=aip
 args z:=[.sl 1 bM (λ_=>z.l),.fn (.func 220) [] [.dE [.sl 1 jb (λ_=>z.out)] 0]]
 pre z:=XB z
 res z:=.sl 1 jb (λ_=>z.l.map λs=>z.out.getD s.toNat false)
 fr:=true
noncomputable def cCb (n m:Nat):Ctx:=eu n m [] [(220,GvS)]
theorem agu (n m:Nat):CB PP (cCb n m):=ez n m trivial ⟨asH,trivial⟩
theorem aoz:cZ (PP ()) 219 ae7:=by
 refine Ph (agu 0 0) (fo Tryz.func219) (λa=>⟨(λx=>(cQ x).1),⟨trivial,⟨(λx=>(tP x).1),trivial⟩,trivial⟩,trivial⟩) (λa=>(λx=>(tP x).1)) ?_
 rintro ⟨l,out⟩ hx
 have hx:XB ⟨l,out⟩:=hx
 have Y9:l.length<=1000000:=hx.dK
 have zK:∀s∈l,0<=s/\s.toNat < out.length:=hx.s
 obtain ⟨f,hf⟩:∃f:Int->Bool,f=λs=>out.getD s.toNat false:=⟨_,rfl⟩
 have e9:0<=(l.length:Int)/\1*(l.length:Int)<=281474976710656/\(l.length:Int)<=9223372036854775807:=by omega
 refine ⟨?_⟩
 cbv
 refine ⟨⟨by decide,e9.1,e9.2.1,e9.2.2⟩,?_⟩
 cbv
 refine Sat.cf (agu 0 0) 1 5 [(.t 5,0)] (λi:Nat=>[(5,.own 0),(11,.sl 1 bM (λ_=>l)),(12,.i .i64 (λ_=>(l.length:Int))),(13,.i .i64 (λ_=>(i:Int)))]) (λi=>[(0,.dyn 4 1 jb (λ_=>(l.take i).map f))]) (λi=>i<=l.length) (λi=>l.length - i) 0 (by exact ao) (by exact ao) (cN _) ?_
 intro i hi
 have hi:i<=l.length:=hi
 have h0:=n0 i
 have h1:=cq (i:=i) (by omega)
 cbv
 refine ⟨λh=>?_,λh=>?_⟩
 ·have bt:i < l.length:=bI
  have bh:l.length - (i+1) < l.length - i:=by omega
  refine (bD bt).elim λs hs=>?_
  have vu:=zK s (cb hs)
  have yx:(l.take i).map f++[f s]=(l.take (i+1)).map f:=by rw [take_one hs];simp
  have eb:(((l.take i).map f).length+1)*1<=140737488355328:=by simp;omega
  have nj:((l.take i).map f).length+1<=9223372036854775807:=by simp;omega
  have zP:out.getD s.toNat false=f s:=by rw [hf]
  cbv
  refine ⟨s,⟨h0,hs⟩,?_⟩
  cbv
  refine ⟨⟨s,out⟩,⟨.inl ⟨by exact bQ,rfl⟩,vu⟩,?_⟩
  cbv
  refine ⟨[f s],⟨by have jJ:=zP;exact cP,eb,nj⟩,?_⟩
  cbv
  exact ⟨i+1,by exact ao,by have et:=yx;exact bJ,⟨⟨bt,bh⟩⟩⟩
 ·have b9:i=l.length:=by
   have h':aU i l.length=false:=h.out
   have h2:¬(i:Int) < l.length:=by simpa [aU] using h'
   omega
  have gF:(l.take i).map f=l.map λs=>out.getD s.toNat false:=by rw [b9,lK,hf]
  cbv
  refine ⟨?_⟩
  cbv
  exact ⟨by have dJ:=gF;exact dx,λx=>rfl⟩
structure mG (p:bC) (st sig out:List Int):Prop where
 sl:sig.length=p.ins.length+2*p.blocks.length
 ol:out.length=p.blocks.length
 pz:∀s:Nat,s < p.ins.length->sig[s]?=some (KQ p s)
 aZ:∀(b:Nat) (x:Block),p.blocks[b]?=some x->0<=x.aZ->sig[p.ins.length+2*b]?=some (iP [3,x.aZ])/\sig[p.ins.length+2*b+1]?=some (iP [1,x.aZ])/\out[b]?=some (iP [1,x.aZ])
 done:∀(b:Nat) (x:Block),p.blocks[b]?=some x->x.aZ < 0->St st 2 b->sig[p.ins.length+2*b]?=some (wJ p b)/\out[b]?=some (wJ p b)
theorem mG.aiq {p:bC} {st gJ sig out:List Int} (h:mG p st sig out) (hs:∀c,St gJ 2 c->St st 2 c):mG p gJ sig out:=⟨h.sl,h.ol,h.pz,h.aZ,λb x hx hr hb=>h.done b x hx hr (hs b hb)⟩
theorem mG.at {p:bC} {st sig out:List Int} (h:mG p st sig out) {s:Int} (hu:k8 p s) (hd:(p.ins.length:Int)<=s->¬gk p.ins.length s->St st 2 (cS p.ins.length s)):sig.getD s.toNat 0=Fq p (wJ p) s:=by
 have h0:=hu.lo
 have h1:=hu.hi
 unfold bC.sigs at h1
 unfold Fq
 rw [iE]
 split
 ·rename_i aR
  rw [h.pz s.toNat (by omega),Int.toNat_of_nonneg h0];rfl
 ·rename_i b9
  split
  ·rename_i hf
   obtain ⟨x,hx,hr⟩:=hu.flip (by omega) hf
   have e:s.toNat=p.ins.length+2*cS p.ins.length s+1:=by unfold gk at hf;unfold cS;omega
   rw [e,(h.aZ _ x hx hr).2.1]
   unfold KR
   rw [hx];simp [hr]
  ·rename_i hf
   have dP:cS p.ins.length s < p.blocks.length:=by unfold cS;omega
   have e:s.toNat=p.ins.length+2*cS p.ins.length s:=by unfold gk at hf;unfold cS;omega
   have hx:p.blocks[cS p.ins.length s]?=some (p.blocks[cS p.ins.length s]):=eo dP
   unfold H9
   rw [hx,e]
   simp only
   split
   ·rename_i hr;rw [(h.aZ _ _ hx hr).1];rfl
   ·rename_i hr;rw [(h.done _ _ hx (by omega) (hd (by omega) hf)).1];rfl
theorem mG.key {p:bC} {st sig out:List Int} (h:mG p st sig out) {r:Nat->Nat} (hr:k9 p r) {b:Nat} {x:Block} (hx:p.blocks[b]?=some x) (hg:x.aZ < 0) (hu:∀s∈x.ins,k8 p s) (hd:∀s∈x.ins,(p.ins.length:Int)<=s->¬gk p.ins.length s->St st 2 (cS p.ins.length s)):Ds sig x=wJ p b:=by
 have hs:=acN (aom hr) b
 show _=wJ p b
 unfold wJ
 rw [hs]
 show _=CV p (wJ p) b
 unfold CV
 rw [hx]
 simp only
 rw [if_neg (by omega)]
 unfold QQ Ds
 congr 4
 exact vS λs hs=>by rw [h.at (hu s hs) (hd s hs)]
theorem mG.visit {p:bC} {st sig out:List Int} (h:mG p st sig out) {r:Nat->Nat} (hr:k9 p r) {b:Nat} {x:Block} (hx:p.blocks[b]?=some x) (hb:St st 1 b) (hu:∀s∈x.ins,k8 p s) (hd:∀s∈x.ins,(p.ins.length:Int)<=s->¬gk p.ins.length s->St st 2 (cS p.ins.length s)) {y:KU} (hy:KV ⟨p,sig,out,b⟩ y):mG p (st.set b 2) y.sig y.out:=by
 obtain ⟨z,hz,h1,h2⟩:=hy.ok
 have hz:p.blocks[b]?=some z:=by simpa using hz
 rw [hx] at hz;cases hz
 have aR:=(bW.1 hx).1
 by_cases hg:0<=x.aZ
 ·obtain ⟨e1,e2⟩:=h1 hg
  rw [e1,e2]
  refine ⟨h.sl,h.ol,h.pz,h.aZ,λc w hw vq hc=>?_⟩
  by_cases gB:c=b
  ·subst gB;rw [hx] at hw;cases hw;omega
  ·exact h.done c w hw vq ((St.rI gB).1 hc)
 ·obtain ⟨e1,e2⟩:=h2 (by omega)
  rw [h.key hr hx (by omega) hu hd] at e1 e2
  have e1:y.sig=sig.set (p.ins.length+2*b) (wJ p b):=by simpa using e1
  have e2:y.out=out.set b (wJ p b):=by simpa using e2
  rw [e1,e2]
  refine ⟨by simp [h.sl],by simp [h.ol],λs hs=>?_,λc w hw vq=>?_,λc w hw vq hc=>?_⟩
  ·rw [fb (by omega)];exact h.pz s hs
  ·have gB:c≠b:=by rintro rfl;rw [hx] at hw;cases hw;omega
   rw [fb (by omega),fb (by omega),fb (by omega)]
   exact h.aZ c w hw vq
  ·by_cases gB:c=b
   ·subst gB
    rw [ja,ja]
    simp [h.sl,h.ol,aR]
   ·rw [fb (by omega),fb (by omega)]
    exact h.done c w hw vq ((St.rI gB).1 hc)
structure XC where
 p:bC
 st:List Int
 b:Int
 sig:List Int
 out:List Int
 r:Nat->Nat
structure agv where
 res:Bool
 st:List Int
 sig:List Int
 out:List Int
structure Qe (n:Nat) (x:XC):Prop where
 w:xJ x.p
 sh:Shape x.p
 rk:k9 x.p x.r
 st:xb x.p x.st
 lo:0<=x.b
 hi:x.b < x.p.blocks.length
 z:lM x.st<=n
 on:∀c,St x.st 1 c->x.r x.b.toNat < x.r c
 key:mG x.p x.st x.sig x.out
structure Kw (x:XC) (y:agv):Prop where
 res:y.res=true
 out:pv x.p x.st x.b.toNat true y.st
 key:mG x.p y.st y.sig y.out
@[reducible] noncomputable def air (p:bC) (st sig out:List Int):List Slot :=
 [.fix 35 [.own 1],.dyn 3 1 bM (λ_=>st),.fix 179 (fH p),.fix 180 [.fn (.func 179) [] [.ptr 0 0,.ptr 2 0,.ptr 3 0,.ptr 4 0]],.fix 187 [.fn (.func 100) [] [.ptr 5 0,.ptr 6 0,.ptr 8 0,.ptr 10 0]],
  .fix 57 (fH p),.fix 72 [.own 7],.dyn 74 1 mE (λ_=>sig),.fix 72 [.own 9],.dyn 74 1 mE (λ_=>out),.fix 179 (fH p)]
@[reducible] noncomputable def UO (n:Nat):na where
 α:=XC
 args x:=[.i .i64 (λ_=>x.b),.ptr 0 0,.ptr 2 0,.ptr 3 0,.ptr 4 0]
 io x:=air x.p x.st x.sig x.out
 pre x:=Qe n x
 β:=agv
 post x y:=Kw x y
 mv:=[]
 res x y:=.b (λ_=>y.res)
 kx x y:=air x.p y.st y.sig y.out
structure EkL where
 j:Nat
 st:List Int
 sig:List Int
 out:List Int
noncomputable def cEk (n m:Nat):Ctx:=eu n m [(94,Tryz.f94),(179,Tryz.f179),(100,Tryz.f100)] [] [179,100]
theorem agw (n m:Nat):CB PP (cEk n m):=ez n m ⟨fo Tryz.func94,fo Tryz.func179,fo Tryz.func100,trivial⟩ trivial
theorem aaC (n:Nat) (ih:∀m,m+1=n->iM PP 179 (UO m)):iM PP 179 (UO n):=by
 refine mM (agw 0 0) (fo Tryz.func179) (λa y=>rfl) (λa=>⟨rfl,rfl⟩) .nil ?_
 rintro ⟨⟨ins,blocks,outs,ay⟩,st,b,sig,out,rk⟩ hx
 have hx:Qe n ⟨⟨ins,blocks,outs,ay⟩,st,b,sig,out,rk⟩:=hx
 have hp:=hx.w
 have eg:=hx.sh
 have jK:=hx.rk
 have cJ:=hx.st
 have ef:0<=b:=hx.lo
 have dP:b < blocks.length:=hx.hi
 have hz:lM st<=n:=hx.z
 have MK:∀c,St st 1 c->rk b.toNat < rk c:=hx.on
 have rY:=hx.key
 simp only at hp eg jK cJ rY
 clear hx
 have aia:st.length=blocks.length:=cJ.len
 have jk:0<=b/\b.toNat < st.length:=by omega
 obtain ⟨v,hv⟩:=bD jk.2
 refine ⟨?_⟩
 cbv
 refine ⟨⟨jk⟩,v,⟨hv,rfl⟩,?_⟩
 cbv
 refine ⟨λh=>?_,λh=>?_⟩
 ·have qm:v=1:=bI
  exact absurd (MK b.toNat (by rw [<-qm];exact hv)) (Oc _)
 ·have qm:v≠1:=bI
  cbv
  refine ⟨λh=>?_,λh=>?_⟩
  ·have ka:v=2:=bI
   have bX:Kw ⟨⟨ins,blocks,outs,ay⟩,st,b,sig,out,rk⟩ ⟨true,st,sig,out⟩:=⟨rfl,.CD cJ (by rw [<-ka];exact hv),rY⟩
   cbv
   exact ⟨⟨true,st,sig,out⟩,[],[],⟨by exact aK,trivial⟩,by exact ao,⟨bX⟩⟩
  ·have ka:v≠2:=bI
   have ik:St st 0 b.toNat:=by
    have:=cJ.val _ _ hv
    have e:v=0:=by omega
    rw [<-e];exact hv
   have RH:=TM ik
   refine (⟨n - 1,by omega⟩:∃m,m+1=n).elim λm hm=>?_
   have ih:=ih m hm
   refine (bD (l:=blocks) (i:=b.toNat) (by omega)).elim λx hx=>?_
   have iI:=cb hx
   have yv:∀s∈x.ins,0<=s/\s < (ins.length:Int)+2*blocks.length:=hp.used x iI
   have ur:∀s∈x.ins,k8 ⟨ins,blocks,outs,ay⟩ s:=eg.used x iI
   have mq:=hp.k x iI
   have oP:blocks.length<=600:=hp.dK
   have QR:ins.length<=1000000:=hp.ins
   have tG:=oX.start cJ ik x
   have Fu:mG ⟨ins,blocks,outs,ay⟩ (st.set b.toNat 1) sig out:=rY.aiq λc hc=>by
    by_cases gB:c=b.toNat
    ·rw [gB] at hc;have:=(St.AH ik.lt).1 hc;omega
    ·exact (St.rI gB).1 hc
   cbv
   refine ⟨⟨jk⟩,?_⟩
   cbv
   refine ⟨(v,1),⟨hv,rfl,by exact aK⟩,?_⟩
   cbv
   refine ⟨x,⟨ef,hx⟩,?_⟩
   cbv
   refine Sat.cf (agw 0 0) 11 7 [] (λy:EkL=>[(28,.sl 1 bM (λ_=>x.ins)),(29,.i .i64 (λ_=>(x.ins.length:Int))),(30,.i .i64 λ_=>(y.j:Int))]) (λy=>[(1,.dyn 3 1 bM λ_=>y.st),(7,.dyn 74 1 mE λ_=>y.sig),(9,.dyn 74 1 mE λ_=>y.out)])
    (λy=>oX ⟨ins,blocks,outs,ay⟩ st b.toNat x y.j y.st/\mG ⟨ins,blocks,outs,ay⟩ y.st y.sig y.out) (λy=>x.ins.length - y.j) ⟨0,st.set b.toNat 1,sig,out⟩ (by exact ao) (by exact ao) ⟨tG,Fu⟩ ?_
   rintro ⟨j,gW,th,dF⟩ ⟨hJ,hK⟩
   have hJ:oX ⟨ins,blocks,outs,ay⟩ st b.toNat x j gW:=hJ
   have hK:mG ⟨ins,blocks,outs,ay⟩ gW th dF:=hK
   have er:=hJ.le
   have iN:=n0 j
   have vz:=cq (i:=j) (by omega)
   cbv
   refine ⟨λh=>?_,λh=>?_⟩
   ·have ve:j < x.ins.length:=bI
    have bh:x.ins.length - (j+1) < x.ins.length - j:=by omega
    refine (bD ve).elim λs hs=>?_
    have qs:=yv s (cb hs)
    cbv
    refine ⟨s,⟨iN,hs⟩,?_⟩
    cbv
    refine ⟨λh=>?_,λh=>?_⟩
    ·have aR:s < (ins.length:Int):=bI
     have bB:=hJ.skip hs (λh=>by have:=h.1;simp only at this;omega)
     cbv
     exact ⟨⟨j+1,gW,th,dF⟩,by exact ao,by exact ao,⟨⟨⟨bB,hK⟩,bh⟩⟩⟩
    ·have b9:(ins.length:Int)<=s:=bI
     have qs:0<=s/\s < (ins.length:Int)+2*(blocks.length:Int):=qs
     refine (⟨_,rfl⟩:∃d:Nat,cS ins.length s=d).elim λd hd=>?_
     have gh:IntKind.i64.wrap (s - (ins.length:Int))=s - (ins.length:Int):=cu (by omega) (by omega)
     have q9:(s - (ins.length:Int)) / 2=(d:Int):=by rw [<-hd];unfold cS;omega
     have hc:IntKind.i64.wrap ((IntKind.i64.wrap (s - (ins.length:Int))).tdiv 2)=(d:Int):=by
      rw [gh,Ak (by omega),q9];exact cu (by omega) (by omega)
     have hm:(IntKind.i64.wrap (s - (ins.length:Int))).tmod 2=(s - (ins.length:Int)) % 2:=by
      rw [gh,qI (by omega)]
     have fV:d < blocks.length:=by omega
     cbv
     refine ⟨⟨by decide⟩,⟨by decide⟩,λh=>?_,λh=>?_⟩
     ·cbv
      refine ⟨λh=>?_,λh=>?_⟩
      ·have mR:¬gk ins.length s:=by
        have h':(!aV ((IntKind.i64.wrap (s - (ins.length:Int))).tmod 2) 1)=true:=h.out
        rw [hm] at h'
        unfold gk
        simpa [aV] using h'
       have mP:rk d < rk b.toNat:=by
        have:=jK b.toNat x hx s (cb hs) b9 mR
        rw [show cS ins.length s=d from hd] at this
        exact this
       have fh:Qe m ⟨⟨ins,blocks,outs,ay⟩,gW,d,th,dF,rk⟩:=⟨hp,eg,jK,hJ.w,by show 0<=(d:Int);omega,by show (d:Int) < blocks.length;omega,by have:=hJ.z;show lM gW<=m;omega,λc hc=>by
        show rk d < rk c
        rcases (hJ.one c).1 hc with h|h
        ·have:=MK c h;omega
        ·rw [h];exact mP,hK⟩
       cbv
       refine bV.jU ih (λa y=>trivial) ⟨⟨ins,blocks,outs,ay⟩,gW,d,th,dF,rk⟩ [0,1,2,3,4,5,6,7,8,9,10] rfl (by exact bQ) (by exact ao) ⟨fh⟩ λy hy=>?_
       have hy:Kw ⟨⟨ins,blocks,outs,ay⟩,gW,d,th,dF,rk⟩ y:=hy.out
       obtain ⟨res,lC,CY,qT⟩:=y
       have hr:res=true:=hy.res
       have zF:pv ⟨ins,blocks,outs,ay⟩ gW d true lC:=hy.out
       have xg:mG ⟨ins,blocks,outs,ay⟩ lC CY qT:=hy.key
       subst hr
       cbv
       refine ⟨λh=>?_,λh=>?_⟩
       ·have h':(!true)=true:=h.out
        cases h'
       ·have bB:=hJ.go hs ik (by rw [show cS ins.length s=d from hd];exact zF)
        cbv
        exact ⟨⟨j+1,lC,CY,qT⟩,by exact ao,by exact ao,⟨⟨⟨bB,xg⟩,bh⟩⟩⟩
      ·have mR:gk ins.length s:=by
        have h':(!aV ((IntKind.i64.wrap (s - (ins.length:Int))).tmod 2) 1)=false:=h.out
        rw [hm] at h'
        unfold gk
        simpa [aV] using h'
       have bB:=hJ.skip hs (λh=>h.2 mR)
       cbv
       exact ⟨⟨j+1,gW,th,dF⟩,by exact ao,by exact ao,⟨⟨⟨bB,hK⟩,bh⟩⟩⟩
     ·exfalso
      have h':cV 0 (IntKind.i64.wrap ((IntKind.i64.wrap (s - (ins.length:Int))).tdiv 2))=false:=h.out
      rw [hc] at h'
      simp only [cV,decide_eq_false_iff_not] at h'
      exact aT
   ·have oe:j=x.ins.length:=by
     have h':aU j x.ins.length=false:=h.out
     have h2:¬(j:Int) < x.ins.length:=by simpa [aU] using h'
     omega
    have bX:=hJ.out hx ik oe
    have zh:St gW 1 b.toNat:=(hJ.one b.toNat).2 (.inr rfl)
    refine (⟨_,rfl⟩:∃l,gW.set b.toNat 2=l).elim λlC h3=>?_
    have XD:∀y:KU,KV ⟨⟨ins,blocks,outs,ay⟩,th,dF,b⟩ y->mG ⟨ins,blocks,outs,ay⟩ lC y.sig y.out:=λy hy=>by
     rw [<-h3]
     refine hK.visit jK hx zh ur (λs hs h1 h2=>?_) (by rw [show ((b.toNat:Nat):Int)=b by omega];exact hy)
     obtain ⟨i,hi,e⟩:=Ao.1 hs
     exact hJ.ins i s (by omega) (by rw [eo hi,e]) h1 h2
    have Zb:VU ⟨⟨ins,blocks,outs,ay⟩,th,dF,b⟩:=⟨oP,QR,ef,dP,hK.sl,hK.ol,hp.used,hp.k⟩
    rw [h3] at bX
    have CX:0<=b/\b.toNat < gW.length:=by have:=hJ.w.len;simp only at this;omega
    refine (bD CX.2).elim λu hu=>?_
    cbv
    refine ⟨⟨CX⟩,?_⟩
    cbv
    refine ⟨(u,2),⟨hu,rfl,by exact aK⟩,?_⟩
    cbv
    refine bV.jU anu (λa y=>trivial) ⟨⟨ins,blocks,outs,ay⟩,th,dF,b⟩ [5,6,7,8,9,10] rfl (by exact bQ) (by exact ao) ⟨Zb⟩ λy hy=>?_
    have xg:=XD y hy.out
    obtain ⟨CY,qT⟩:=y
    have HF:Kw ⟨⟨ins,blocks,outs,ay⟩,st,b,sig,out,rk⟩ ⟨true,lC,CY,qT⟩:=⟨rfl,bX,xg⟩
    cbv
    exact ⟨⟨true,lC,CY,qT⟩,[],[],⟨by exact aK,trivial⟩,by have et:=h3;exact bJ,⟨HF⟩⟩
theorem abN:∀n,iM PP 179 (UO n)
 | 0=>aaC 0 λm h=>by omega
 | n+1=>aaC (n+1) λm h=>by
  cases Tu h
  exact abN n
def CZ (s:jF):List SV:=[.sl 1 bM (λ_=>s.aM),.sl 1 jc (λ_=>s.bf)]
theorem Ke (s:jF):du (CZ s):=⟨λx=>(cQ x).1,λx=>(pW x).1,trivial⟩
def QZ (out:List Bool) (s:Int):Bool:=out.getD s.toNat false
def zS (out:List Bool) (s:jF) (x:Block):Bool:=if x.bR < 0 then zc x.table (x.ins.map (QZ out)) else EU s x.bR (x.ins.map (QZ out))
structure XE where
 p:bC
 out:List Bool
 b:Int
 s:jF
structure Fv (x:XE) (y:List Bool):Prop where
 ok:∃z,x.p.blocks[x.b.toNat]?=some z/\y=x.out.set (x.p.ins.length+2*x.b.toNat) (zS x.out x.s z)
structure Wb (x:XE):Prop where
 dK:x.p.blocks.length<=600
 ins:x.p.ins.length<=1000000
 lo:0<=x.b
 hi:x.b < x.p.blocks.length
 ol:x.out.length=x.p.ins.length+2*x.p.blocks.length
 used:∀z∈x.p.blocks,∀s∈z.ins,0<=s/\s < x.p.sigs
 k:∀z∈x.p.blocks,z.ins.length<=4
 bR:∀z∈x.p.blocks,z.bR<=63
 new:x.out[x.p.ins.length+2*x.b.toNat]?=some false
@[reducible] noncomputable def Q5 (p:bC) (out:List Bool) (s:jF):List Slot :=
 [.fix 57 (fH p),.fix 41 [.own 2],.dyn 4 1 jb (λ_=>out),.fix 179 (fH p),.fix 38 (CZ s)]
@[reducible] noncomputable def apK:na where
 α:=XE
 args x:=[.i .i64 (λ_=>x.b),.ptr 0 0,.ptr 1 0,.ptr 3 0,.ptr 4 0]
 io x:=Q5 x.p x.out x.s
 pre x:=Wb x
 β:=List Bool
 post x y:=Fv x y
 mv:=[]
 res x y:=.dG []
 kx x y:=Q5 x.p y x.s
noncomputable def cVe (n m:Nat):Ctx:=eu n m [] [(120,Wa),(95,Cx),(219,ae7)]
theorem agx (n m:Nat):CB PP (cVe n m):=ez n m trivial ⟨apJ,Et,aoz,trivial⟩
theorem anA:iM PP 218 apK:=by
 refine mM (agx 0 0) (fo Tryz.func218) (λa y=>rfl) (λa=>⟨rfl,rfl⟩) .nil ?_
 rintro ⟨⟨ins,blocks,outs,ay⟩,out,b,⟨aM,bf⟩⟩ hx
 have hx:Wb ⟨⟨ins,blocks,outs,ay⟩,out,b,⟨aM,bf⟩⟩:=hx
 have oP:blocks.length<=600:=hx.dK
 have iO:ins.length<=1000000:=hx.ins
 have ef:0<=b:=hx.lo
 have dP:b < blocks.length:=hx.hi
 have gv:out.length=ins.length+2*blocks.length:=hx.ol
 obtain ⟨x,oY⟩:=bD (l:=blocks) (i:=b.toNat) (by omega)
 have iI:=cb oY
 have yv:∀s∈x.ins,0<=s/\s < (ins.length:Int)+2*blocks.length:=hx.used x iI
 have mq:x.ins.length<=4:=hx.k x iI
 have hxr:x.bR<=63:=hx.bR x iI
 have bB:out[ins.length+2*b.toNat]?=some false:=hx.new
 clear hx
 obtain ⟨V,hV⟩:∃V,(x.ins.map λs=>out.getD s.toNat false)=V:=⟨_,rfl⟩
 have I2:V.length=x.ins.length:=by rw [<-hV,qJ]
 have gB:XB ⟨x.ins,out⟩:=⟨by show x.ins.length<=1000000;omega,λs hs=>by have:=yv s hs;show 0<=s/\s.toNat < out.length;omega⟩
 have YV:V.length<=1000000:=by omega
 have HF:∀v,v=zS out ⟨aM,bf⟩ x->Fv ⟨⟨ins,blocks,outs,ay⟩,out,b,⟨aM,bf⟩⟩ (out.set (ins.length+2*b.toNat) v):=λv hv=>⟨x,oY,by rw [hv]⟩
 have pB:((ins.length:Int)+2*b).toNat=ins.length+2*b.toNat:=by omega
 have yw:0<=(ins.length:Int)+2*b/\((ins.length:Int)+2*b).toNat < out.length:=by omega
 have htu:out[((ins.length:Int)+2*b).toNat]?=some false:=by rw [pB];exact bB
 have QT:b<=1000000:=by omega
 have fV:x.bR < 0->zS out ⟨aM,bf⟩ x=zc x.table V:=λh=>by
  unfold zS;rw [if_pos h];show zc x.table (x.ins.map λs=>out.getD s.toNat false)=_;rw [hV]
 have nw:¬x.bR < 0->zS out ⟨aM,bf⟩ x=EU ⟨aM,bf⟩ x.bR V:=λh=>by
  unfold zS;rw [if_neg h];show EU _ x.bR (x.ins.map λs=>out.getD s.toNat false)=_;rw [hV]
 have wj:zS out ⟨aM,bf⟩ x=false->Fv ⟨⟨ins,blocks,outs,ay⟩,out,b,⟨aM,bf⟩⟩ out:=λh=>⟨x,oY,by
  rw [h]
  show out=out.set (ins.length+2*b.toNat) false
  refine oy λi=>?_
  rw [ja]
  split
  ·rename_i e;subst e;rw [bB];have:=(bW.1 bB).1;rw [if_pos this]
  ·rfl⟩
 obtain ⟨U,hU⟩:∃U:Nat->Int,∀i,U i=x4 V i:=⟨_,λ_=>rfl⟩
 have Za:0=U 0:=by rw [hU];rfl
 refine ⟨?_⟩
 cbv
 refine ⟨x,⟨ef,oY⟩,?_⟩
 cbv
 refine ⟨⟨x.ins,out⟩,⟨.inl ⟨by exact bQ,rfl⟩,gB⟩,?_⟩
 cbv
 refine ⟨λh=>?_,λh=>?_⟩
 ·have hr:x.bR < 0:=bI
  obtain ⟨v,hv⟩:∃v,zc x.table V=v:=⟨_,rfl⟩
  obtain ⟨o2,j9⟩:∃o,out.set ((ins.length:Int)+2*b).toNat v=o:=⟨_,rfl⟩
  have tm:Fv ⟨⟨ins,blocks,outs,ay⟩,out,b,⟨aM,bf⟩⟩ o2:=by rw [<-j9,pB];exact HF v (by rw [fV hr,hv])
  cbv
  refine ⟨⟨⟨ins,blocks,outs,ay⟩,b⟩,⟨by exact bQ,iO,ef,QT⟩,?_⟩
  cbv
  refine ⟨⟨x.table,V⟩,⟨by have dJ:=hV;exact cP,YV⟩,?_⟩
  cbv
  refine ⟨⟨yw⟩,?_⟩
  cbv
  refine ⟨(false,v),⟨htu,rfl,by have jJ:=hv;exact dx⟩,?_⟩
  cbv
  exact ⟨o2,[],[],⟨by exact aK,trivial⟩,by have et:=j9;exact bJ,⟨tm⟩⟩
 have hr:¬x.bR < 0:=bI
 clear h
 cbv
 refine Sat.cf (agx 0 0) 6 8 [] (λi:Nat=>[(7,.sl 1 jb (λ_=>V)),(8,.i .i64 (λ_=>U i)),(33,.sl 1 jb (λ_=>V)),(34,.i .i64 (λ_=>(V.length:Int))),(35,.i .i64 (λ_=>(i:Int)))]) (λi=>[]) (λi=>i<=V.length) (λi=>V.length - i) 0 (by ((try cbv)<;>(repeat' (first|with_reducible exact trivial|with_reducible refine And.intro ?_ ?_))<;>(try first|exact eQ.refl _|exact eQ.dyn rfl|exact eQ.map rfl|exact eQ.iter rfl rfl (.inl rfl)|exact eQ.iter rfl rfl (.inr rfl)|refine eQ.fix ?_|refine eQ.dyn ?_)<;>((repeat' first|exact dR.nil|exact Le.refl _|refine dR.cons ?_ ?_|exact Le.ic rfl|exact Le.bc rfl|exact Le.i rfl|exact Le.b rfl|exact Le.sl rfl|exact Le.mp rfl|exact Le.iz rfl|exact Le.si rfl|refine Le.dg rfl (λ_=>?_)|refine Le.eK rfl (λ_ _=>rfl) (λ_=>?_) ?_|refine Le.agg ?_|refine Le.dG ?_|refine Le.fn ?_ ?_|refine Le.dE ?_|exact trivial|refine And.intro ?_ ?_|refine λ_=>?_|exact Le.any _)))<;>first|exact Le.ic Za|exact .sl hV|(refine .i ?_;rw [<-hV])) (by exact ao) (cN _) ?_
 intro i hi
 have hi:i<=V.length:=hi
 have h0:=n0 i
 have h1:=cq (i:=i) (by omega)
 cbv
 refine ⟨λh=>?_,λh=>?_⟩
 ·have bt:i < V.length:=bI
  have bh:V.length - (i+1) < V.length - i:=by omega
  refine (bD bt).elim λc hc=>?_
  cbv
  refine ⟨c,⟨h0,hc⟩,?_⟩
  cbv
  refine ⟨λh=>?_,λh=>?_⟩
  ·have wX:c=true:=h.out
   have cJ:jd .or .i64 (U i) (IntKind.i64.wrap (1*2^(min ((i:Int)).toNat IntKind.i64.bits)))=U (i+1):=by rw [hU,hU];exact acX (by rw [hc,wX])
   cbv
   refine ⟨⟨h0⟩,?_⟩
   cbv
   exact ⟨i+1,by have bg:=cJ;have lQ:=h1;exact bJ,by exact ao,⟨⟨bt,bh⟩⟩⟩
  ·have wX:c=false:=h.out
   have cJ:U i=U (i+1):=by rw [hU,hU];exact ad7 (by rw [hc,wX])
   cbv
   exact ⟨i+1,by have bg:=cJ;have lQ:=h1;exact bJ,by exact ao,⟨⟨bt,bh⟩⟩⟩
 have b9:i=V.length:=by
  have h':aU i V.length=false:=h.out
  have h2:¬(i:Int) < V.length:=by simpa [aU] using h'
  omega
 obtain ⟨u,hu⟩:∃u:Nat,U i=(u:Int):=by
  obtain ⟨n,hn,_⟩:=Uj V i (by omega)
  exact ⟨n,by rw [hU,hn]⟩
 have Ya:Ia V=(u:Int):=by unfold Ia;rw [<-b9,<-hU,hu]
 have hq:IntKind.i64.wrap (x.bR.tdiv 8)=x.bR / 8:=by rw [Ak (by omega)];exact cu (by omega) (by omega)
 have F8:x.bR.tmod 8=x.bR % 8:=qI (by omega)
 have oW:0<=IntKind.i64.wrap (x.bR.tdiv 8):=by rw [hq];omega
 have hqt:(IntKind.i64.wrap (x.bR.tdiv 8)).toNat=(x.bR / 8).toNat:=by rw [hq]
 have yb:0<=x.bR / 8:=by omega
 have ql:0<=U i:=by rw [hu];exact GI _
 have hut:(U i).toNat=u:=by rw [hu,ox]
 have ais:(Ia V).toNat=u:=by rw [Ya,ox]
 have XF:0<=x.bR.tmod 8:=by rw [F8];omega
 clear h h0 h1 hi
 cbv
 refine ⟨⟨by decide⟩,?_⟩
 cbv
 refine ⟨λh=>?_,λh=>?_⟩
 rotate_left
 ·have zA:bf[(x.bR / 8).toNat]?=none:=by
   have h':aU (IntKind.i64.wrap (x.bR.tdiv 8)) (bf.length:Int)=false:=h.out
   rw [hq] at h'
   refine nW ?_
   have:¬x.bR / 8 < (bf.length:Int):=by simpa [aU] using h'
   omega
  have tm:=wj (by rw [nw hr];unfold EU;rw [zA])
  cbv
  exact ⟨out,[],[],⟨by exact aK,trivial⟩,by exact ao,⟨tm⟩⟩
 have Bb:(x.bR / 8).toNat < bf.length:=by
  have h':aU (IntKind.i64.wrap (x.bR.tdiv 8)) (bf.length:Int)=true:=h.out
  rw [hq] at h'
  have:x.bR / 8 < (bf.length:Int):=by simpa [aU] using h'
  omega
 obtain ⟨m,hm⟩:=bD Bb
 have hmi:0<=IntKind.i64.wrap (x.bR.tdiv 8)/\bf[(IntKind.i64.wrap (x.bR.tdiv 8)).toNat]?=some m:=⟨oW,by rw [hqt];exact hm⟩
 clear h
 cbv
 refine ⟨m,⟨hmi⟩,?_⟩
 cbv
 refine ⟨λh=>?_,λh=>?_⟩
 rotate_left
 ·have zA:m[(Ia V).toNat]?=none:=by
   have h':aU (U i) (m.length:Int)=false:=h.out
   rw [ais]
   refine nW ?_
   have h2:¬U i < (m.length:Int):=by simpa [aU] using h'
   rw [hu] at h2
   omega
  have tm:=wj (by rw [nw hr];unfold EU;simp only;rw [hm];simp only;rw [zA])
  cbv
  exact ⟨out,[],[],⟨by exact aK,trivial⟩,by exact ao,⟨tm⟩⟩
 have C3:u < m.length:=by
  have h':aU (U i) (m.length:Int)=true:=h.out
  have h2:U i < (m.length:Int):=by simpa [aU] using h'
  rw [hu] at h2
  omega
 obtain ⟨w,hw⟩:=bD C3
 have Bl:0<=U i/\m[(U i).toNat]?=some w:=⟨ql,by rw [hut];exact hw⟩
 obtain ⟨v,hv⟩:∃v,aV (jd .and .i64 (w.fdiv (2^(min (x.bR.tmod 8).toNat IntKind.i64.bits))) 1) 1=v:=⟨_,rfl⟩
 obtain ⟨o2,j9⟩:∃o,out.set ((ins.length:Int)+2*b).toNat v=o:=⟨_,rfl⟩
 have tm:Fv ⟨⟨ins,blocks,outs,ay⟩,out,b,⟨aM,bf⟩⟩ o2:=by
  rw [<-j9,pB]
  refine HF v ?_
  rw [nw hr]
  unfold EU
  simp only
  rw [hm]
  simp only
  rw [ais,hw]
  show v=Ft w (x.bR % 8)
  rw [<-hv,F8]
  rfl
 clear h
 cbv
 refine ⟨⟨⟨ins,blocks,outs,ay⟩,b⟩,⟨by exact bQ,iO,ef,QT⟩,?_⟩
 cbv
 refine ⟨m,⟨hmi⟩,?_⟩
 cbv
 refine ⟨w,⟨Bl⟩,?_⟩
 cbv
 refine ⟨⟨by decide⟩,⟨XF⟩,⟨yw⟩,?_⟩
 cbv
 refine ⟨(false,v),⟨htu,rfl,by have jJ:=hv;exact dx⟩,?_⟩
 cbv
 exact ⟨o2,[],[],⟨by exact aK,trivial⟩,by have et:=j9;exact bJ,⟨tm⟩⟩
theorem mG.all {p:bC} {st sig out:List Int} (h:mG p st sig out) (ha:∀c,c < p.blocks.length->St st 2 c):out=pq p:=by
 refine oy λb=>?_
 unfold pq
 rw [m7]
 by_cases hb:b < p.blocks.length
 ·have hx:p.blocks[b]?=some p.blocks[b]:=eo hb
  rw [Jw hb]
  simp only [vT]
  unfold Fs
  rw [hx]
  simp only
  split
  ·rename_i hr;exact (h.aZ b _ hx hr).2.2
  ·rename_i hr;exact (h.done b _ hx (by omega) (ha b hb)).2
 ·rw [nW (by rw [h.ol];omega),nW (by simpa using hb)];rfl
structure ait where
 p:bC
 sig:List Int
 out:List Int
 r:Nat->Nat
structure Wc (x:ait):Prop where
 w:xJ x.p
 sh:Shape x.p
 rk:k9 x.p x.r
 key:mG x.p [] x.sig x.out
@[reducible] noncomputable def aqZ:na where
 α:=ait
 args x:=[.agg (fH x.p),.fn (.func 100) [] [.ptr 0 0,.ptr 1 0,.ptr 3 0,.ptr 5 0]]
 io x:=[.fix 57 (fH x.p),.fix 72 [.own 2],.dyn 74 1 mE (λ_=>x.sig),.fix 72 [.own 4],.dyn 74 1 mE (λ_=>x.out),.fix 179 (fH x.p)]
 pre x:=Wc x
 β:=KU
 post x y:=y.out=pq x.p
 mv:=[]
 res x y:=.b (λ_=>true)
 kx x y:=[.fix 57 (fH x.p),.fix 72 [.own 2],.dyn 74 1 mE (λ_=>y.sig),.fix 72 [.own 4],.dyn 74 1 mE (λ_=>y.out),.fix 179 (fH x.p)]
structure WkL where
 b:Nat
 st:List Int
 sig:List Int
 out:List Int
theorem aoA:iM PP 88 aqZ:=by
 refine mM (Qa 0 0) (fo Tryz.func88) (λa y=>rfl) (λa=>⟨rfl,rfl⟩) .nil ?_
 rintro ⟨⟨ins,blocks,outs,ay⟩,sig,out,rk⟩ hx
 have hx:Wc ⟨⟨ins,blocks,outs,ay⟩,sig,out,rk⟩:=hx
 have hp:=hx.w
 have eg:=hx.sh
 have jK:=hx.rk
 have rY:=hx.key
 simp only at hp eg jK rY
 clear hx
 have oP:blocks.length<=600:=hp.dK
 have e9:0<=(blocks.length:Int)/\8*(blocks.length:Int)<=281474976710656/\(blocks.length:Int)<=9223372036854775807:=by omega
 refine ⟨?_⟩
 cbv
 refine ⟨⟨e9.1,j5 _,e9.2.1,e9.2.2⟩,?_⟩
 cbv
 have ta:List.replicate ((blocks.length:Int)).toNat (0:Int)=List.replicate blocks.length 0:=by rw [ox]
 obtain ⟨zO,zq⟩:∃l,List.replicate ((blocks.length:Int)).toNat (0:Int)=l:=⟨_,rfl⟩
 have tG:uF ⟨ins,blocks,outs,ay⟩ 0 zO:=by rw [<-zq,ta];exact .start ⟨ins,blocks,outs,ay⟩
 have Fu:mG ⟨ins,blocks,outs,ay⟩ zO sig out:=rY.aiq λc hc=>by
  rw [<-zq,ta] at hc
  have hm:=cb (show (List.replicate blocks.length (0:Int))[c]?=some 2 from hc)
  have:=(Eb.1 hm).2
  omega
 refine Sat.cf (Qa 0 0) 11 7 [(.c 9 0,8)] (λx:WkL=>[(17,.i .i64 (λ_=>(blocks.length:Int))),(18,.i .i64 λ_=>(x.b:Int))]) (λx=>[(8,.dyn 3 1 bM λ_=>x.st),(2,.dyn 74 1 mE (λ_=>x.sig)),(4,.dyn 74 1 mE (λ_=>x.out))])
  (λx=>uF ⟨ins,blocks,outs,ay⟩ x.b x.st/\mG ⟨ins,blocks,outs,ay⟩ x.st x.sig x.out) (λx=>blocks.length - x.b) ⟨0,zO,sig,out⟩ (by exact ao) (by have et:=zq;exact bJ) ⟨tG,Fu⟩ ?_
 rintro ⟨b,st,th,dF⟩ ⟨hJ,hK⟩
 have hJ:uF ⟨ins,blocks,outs,ay⟩ b st:=hJ
 have hK:mG ⟨ins,blocks,outs,ay⟩ st th dF:=hK
 have dP:b<=blocks.length:=hJ.le
 have h0:=n0 b
 have h1:=cq (i:=b) (by omega)
 cbv
 refine ⟨λh=>?_,λh=>?_⟩
 ·have aR:b < blocks.length:=bI
  have bh:blocks.length - (b+1) < blocks.length - b:=by omega
  have fh:Qe (lM st) ⟨⟨ins,blocks,outs,ay⟩,st,b,th,dF,rk⟩:=⟨hp,eg,jK,hJ.w,h0,by show (b:Int) < blocks.length;omega,cR _,λc hc=>absurd hc (hJ.one c),hK⟩
  cbv
  refine bV.jU (abN (lM st)) (λa y=>trivial) ⟨⟨ins,blocks,outs,ay⟩,st,b,th,dF,rk⟩ [9,8,6,10,7,0,1,2,3,4,5] rfl (by exact bQ) (by exact ao) ⟨fh⟩ λy hy=>?_
  have hy:Kw ⟨⟨ins,blocks,outs,ay⟩,st,b,th,dF,rk⟩ y:=hy.out
  obtain ⟨res,lC,CY,qT⟩:=y
  have hr:res=true:=hy.res
  have zF:pv ⟨ins,blocks,outs,ay⟩ st b true lC:=hy.out
  have xg:mG ⟨ins,blocks,outs,ay⟩ lC CY qT:=hy.key
  subst hr
  cbv
  refine ⟨λh=>?_,λh=>?_⟩
  ·have h':(!true)=true:=h.out
   cases h'
  ·have bB:=hJ.next aR zF
   cbv
   exact ⟨⟨b+1,lC,CY,qT⟩,by exact ao,by exact ao,⟨⟨⟨bB,xg⟩,bh⟩⟩⟩
 ·have b9:b=blocks.length:=by
   have h':aU b blocks.length=false:=h.out
   have h2:¬(b:Int) < blocks.length:=by simpa [aU] using h'
   omega
  have bX:dF=pq ⟨ins,blocks,outs,ay⟩:=hK.all λc hc=>hJ.two c (by rw [b9];exact hc)
  cbv
  exact ⟨⟨th,dF⟩,[],[],⟨by exact aK,trivial⟩,by exact ao,⟨bX⟩⟩
structure mT (p:bC) (db:List Bool) (s:jF) (st:List Int) (out:List Bool):Prop where
 ol:out.length=p.ins.length+2*p.blocks.length
 pz:∀i:Nat,i < p.ins.length->out[i]?=some (db.getD i false)
 aZ:∀(b:Nat) (x:Block),p.blocks[b]?=some x->out[p.ins.length+2*b+1]?=some (zp s x.aZ)
 done:∀(b:Nat) (x:Block),p.blocks[b]?=some x->St st 2 b->out[p.ins.length+2*b]?=some (CW p db s b)
 new:∀(b:Nat) (x:Block),p.blocks[b]?=some x->¬St st 2 b->out[p.ins.length+2*b]?=some false
theorem mT.same {p:bC} {db:List Bool} {s:jF} {st gJ:List Int} {out:List Bool} (h:mT p db s st out) (hs:∀c,St gJ 2 c↔St st 2 c):mT p db s gJ out:=⟨h.ol,h.pz,h.aZ,λb x hx hb=>h.done b x hx ((hs b).1 hb),λb x hx hb=>h.new b x hx λh=>hb ((hs b).2 h)⟩
theorem mT.at {p:bC} {db:List Bool} {s:jF} {st:List Int} {out:List Bool} (h:mT p db s st out) {g:Int} (hu:k8 p g) (hd:(p.ins.length:Int)<=g->¬gk p.ins.length g->St st 2 (cS p.ins.length g)):QZ out g=x5 p db s (CW p db s) g:=by
 have h0:=hu.lo
 have h1:=hu.hi
 unfold bC.sigs at h1
 unfold x5 QZ
 rw [iE]
 split
 ·rename_i aR
  rw [h.pz g.toNat (by omega)];rfl
 ·rename_i b9
  have dP:cS p.ins.length g < p.blocks.length:=by unfold cS;omega
  have hx:p.blocks[cS p.ins.length g]?=some (p.blocks[cS p.ins.length g]):=eo dP
  split
  ·rename_i hf
   have e:g.toNat=p.ins.length+2*cS p.ins.length g+1:=by unfold gk at hf;unfold cS;omega
   rw [e,h.aZ _ _ hx]
   unfold VR
   rw [hx];rfl
  ·rename_i hf
   have e:g.toNat=p.ins.length+2*cS p.ins.length g:=by unfold gk at hf;unfold cS;omega
   rw [e,h.done _ _ hx (hd (by omega) hf)];rfl
theorem mT.val {p:bC} {db:List Bool} {s:jF} {st:List Int} {out:List Bool} (h:mT p db s st out) {r:Nat->Nat} (hr:k9 p r) {b:Nat} {x:Block} (hx:p.blocks[b]?=some x) (hu:∀g∈x.ins,k8 p g) (hd:∀g∈x.ins,(p.ins.length:Int)<=g->¬gk p.ins.length g->St st 2 (cS p.ins.length g)):zS out s x=CW p db s b:=by
 have hs:=acQ hr db s b
 rw [hs]
 unfold Ib
 rw [hx]
 simp only
 unfold Xq zS
 rw [map_eq λg hg=>h.at (hu g hg) (hd g hg)]
theorem mT.visit {p:bC} {db:List Bool} {s:jF} {st:List Int} {out:List Bool} (h:mT p db s st out) {r:Nat->Nat} (hr:k9 p r) {b:Nat} {x:Block} (hx:p.blocks[b]?=some x) (hb:St st 1 b) (hu:∀g∈x.ins,k8 p g) (hd:∀g∈x.ins,(p.ins.length:Int)<=g->¬gk p.ins.length g->St st 2 (cS p.ins.length g)) {y:List Bool} (hy:Fv ⟨p,out,b,s⟩ y):mT p db s (st.set b 2) y:=by
 obtain ⟨z,hz,h1⟩:=hy.ok
 have hz:p.blocks[b]?=some z:=by simpa using hz
 rw [hx] at hz;cases hz
 have aR:=(bW.1 hx).1
 have h1:y=out.set (p.ins.length+2*b) (zS out s x):=by simpa using h1
 rw [h.val hr hx hu hd] at h1
 rw [h1]
 have gv:=h.ol
 refine ⟨by simp [h.ol],λi hi=>?_,λc w hw=>?_,λc w hw hc=>?_,λc w hw hc=>?_⟩
 ·rw [fb (by omega)];exact h.pz i hi
 ·rw [fb (by omega)];exact h.aZ c w hw
 ·by_cases gB:c=b
  ·subst gB
   rw [ja]
   simp [gv,aR]
  ·rw [fb (by omega)]
   exact h.done c w hw ((St.rI gB).1 hc)
 ·by_cases gB:c=b
  ·subst gB
   exact absurd ((St.AH hb.lt).2 rfl) hc
  ·rw [fb (by omega)]
   exact h.new c w hw λh=>hc ((St.rI gB).2 h)
structure XG where
 p:bC
 st:List Int
 b:Int
 out:List Bool
 r:Nat->Nat
 db:List Bool
 s:jF
structure agy where
 res:Bool
 st:List Int
 out:List Bool
structure Qf (n:Nat) (x:XG):Prop where
 w:xJ x.p
 sh:Shape x.p
 rk:k9 x.p x.r
 st:xb x.p x.st
 lo:0<=x.b
 hi:x.b < x.p.blocks.length
 z:lM x.st<=n
 on:∀c,St x.st 1 c->x.r x.b.toNat < x.r c
 key:mT x.p x.db x.s x.st x.out
structure Kx (x:XG) (y:agy):Prop where
 res:y.res=true
 out:pv x.p x.st x.b.toNat true y.st
 key:mT x.p x.db x.s y.st y.out
@[reducible] noncomputable def aiu (p:bC) (st:List Int) (out:List Bool) (s:jF):List Slot :=
 [.fix 35 [.own 1],.dyn 3 1 bM (λ_=>st),.fix 179 (fH p),.fix 180 [.fn (.func 179) [] [.ptr 0 0,.ptr 2 0,.ptr 3 0,.ptr 4 0]],.fix 187 [.fn (.func 218) [] [.ptr 5 0,.ptr 6 0,.ptr 8 0,.ptr 9 0]],
  .fix 57 (fH p),.fix 41 [.own 7],.dyn 4 1 jb (λ_=>out),.fix 179 (fH p),.fix 38 (CZ s)]
@[reducible] noncomputable def UP (n:Nat):na where
 α:=XG
 args x:=[.i .i64 (λ_=>x.b),.ptr 0 0,.ptr 2 0,.ptr 3 0,.ptr 4 0]
 io x:=aiu x.p x.st x.out x.s
 pre x:=Qf n x
 β:=agy
 post x y:=Kx x y
 mv:=[]
 res x y:=.b (λ_=>y.res)
 kx x y:=aiu x.p y.st y.out x.s
structure EeL where
 j:Nat
 st:List Int
 out:List Bool
noncomputable def cEe (n m:Nat):Ctx:=eu n m [(94,Tryz.f94),(179,Tryz.f179),(218,Tryz.f218)] [] [179,218]
theorem agz (n m:Nat):CB PP (cEe n m):=ez n m ⟨fo Tryz.func94,fo Tryz.func179,fo Tryz.func218,trivial⟩ trivial
theorem aaD (n:Nat) (ih:∀m,m+1=n->iM PP 179 (UP m)):iM PP 179 (UP n):=by
 refine mM (agz 0 0) (fo Tryz.func179) (λa y=>rfl) (λa=>⟨rfl,rfl⟩) .nil ?_
 rintro ⟨⟨ins,blocks,outs,ay⟩,st,b,out,rk,db,ps⟩ hx
 have hx:Qf n ⟨⟨ins,blocks,outs,ay⟩,st,b,out,rk,db,ps⟩:=hx
 have hp:=hx.w
 have eg:=hx.sh
 have jK:=hx.rk
 have cJ:=hx.st
 have ef:0<=b:=hx.lo
 have dP:b < blocks.length:=hx.hi
 have hz:lM st<=n:=hx.z
 have MK:∀c,St st 1 c->rk b.toNat < rk c:=hx.on
 have rY:=hx.key
 simp only at hp eg jK cJ rY
 clear hx
 have aia:st.length=blocks.length:=cJ.len
 have jk:0<=b/\b.toNat < st.length:=by omega
 obtain ⟨v,hv⟩:=bD jk.2
 refine ⟨?_⟩
 cbv
 refine ⟨⟨jk⟩,v,⟨hv,rfl⟩,?_⟩
 cbv
 refine ⟨λh=>?_,λh=>?_⟩
 ·have qm:v=1:=bI
  exact absurd (MK b.toNat (by rw [<-qm];exact hv)) (Oc _)
 ·have qm:v≠1:=bI
  cbv
  refine ⟨λh=>?_,λh=>?_⟩
  ·have ka:v=2:=bI
   have bX:Kx ⟨⟨ins,blocks,outs,ay⟩,st,b,out,rk,db,ps⟩ ⟨true,st,out⟩:=⟨rfl,.CD cJ (by rw [<-ka];exact hv),rY⟩
   cbv
   exact ⟨⟨true,st,out⟩,[],[],⟨by exact aK,trivial⟩,by exact ao,⟨bX⟩⟩
  ·have ka:v≠2:=bI
   have ik:St st 0 b.toNat:=by
    have:=cJ.val _ _ hv
    have e:v=0:=by omega
    rw [<-e];exact hv
   have RH:=TM ik
   refine (⟨n - 1,by omega⟩:∃m,m+1=n).elim λm hm=>?_
   have ih:=ih m hm
   refine (bD (l:=blocks) (i:=b.toNat) (by omega)).elim λx hx=>?_
   have iI:=cb hx
   have yv:∀s∈x.ins,0<=s/\s < (ins.length:Int)+2*blocks.length:=hp.used x iI
   have ur:∀s∈x.ins,k8 ⟨ins,blocks,outs,ay⟩ s:=eg.used x iI
   have mq:=hp.k x iI
   have oP:blocks.length<=600:=hp.dK
   have QR:ins.length<=1000000:=hp.ins
   have tG:=oX.start cJ ik x
   have Fu:mT ⟨ins,blocks,outs,ay⟩ db ps (st.set b.toNat 1) out:=rY.same λc=>by
    by_cases gB:c=b.toNat
    ·rw [gB]
     exact ⟨λhc=>by have:=(St.AH ik.lt).1 hc;omega,λhc=>by have:=hc.uniq ik;omega⟩
    ·exact St.rI gB
   cbv
   refine ⟨⟨jk⟩,?_⟩
   cbv
   refine ⟨(v,1),⟨hv,rfl,by exact aK⟩,?_⟩
   cbv
   refine ⟨x,⟨ef,hx⟩,?_⟩
   cbv
   refine Sat.cf (agz 0 0) 10 7 [] (λy:EeL=>[(28,.sl 1 bM (λ_=>x.ins)),(29,.i .i64 (λ_=>(x.ins.length:Int))),(30,.i .i64 λ_=>(y.j:Int))]) (λy=>[(1,.dyn 3 1 bM λ_=>y.st),(7,.dyn 4 1 jb λ_=>y.out)])
    (λy=>oX ⟨ins,blocks,outs,ay⟩ st b.toNat x y.j y.st/\mT ⟨ins,blocks,outs,ay⟩ db ps y.st y.out) (λy=>x.ins.length - y.j) ⟨0,st.set b.toNat 1,out⟩ (by exact ao) (by exact ao) ⟨tG,Fu⟩ ?_
   rintro ⟨j,gW,dF⟩ ⟨hJ,hK⟩
   have hJ:oX ⟨ins,blocks,outs,ay⟩ st b.toNat x j gW:=hJ
   have hK:mT ⟨ins,blocks,outs,ay⟩ db ps gW dF:=hK
   have er:=hJ.le
   have iN:=n0 j
   have vz:=cq (i:=j) (by omega)
   cbv
   refine ⟨λh=>?_,λh=>?_⟩
   ·have ve:j < x.ins.length:=bI
    have bh:x.ins.length - (j+1) < x.ins.length - j:=by omega
    refine (bD ve).elim λs hs=>?_
    have qs:=yv s (cb hs)
    cbv
    refine ⟨s,⟨iN,hs⟩,?_⟩
    cbv
    refine ⟨λh=>?_,λh=>?_⟩
    ·have aR:s < (ins.length:Int):=bI
     have bB:=hJ.skip hs (λh=>by have:=h.1;simp only at this;omega)
     cbv
     exact ⟨⟨j+1,gW,dF⟩,by exact ao,by exact ao,⟨⟨⟨bB,hK⟩,bh⟩⟩⟩
    ·have b9:(ins.length:Int)<=s:=bI
     have qs:0<=s/\s < (ins.length:Int)+2*(blocks.length:Int):=qs
     refine (⟨_,rfl⟩:∃d:Nat,cS ins.length s=d).elim λd hd=>?_
     have gh:IntKind.i64.wrap (s - (ins.length:Int))=s - (ins.length:Int):=cu (by omega) (by omega)
     have q9:(s - (ins.length:Int)) / 2=(d:Int):=by rw [<-hd];unfold cS;omega
     have hc:IntKind.i64.wrap ((IntKind.i64.wrap (s - (ins.length:Int))).tdiv 2)=(d:Int):=by
      rw [gh,Ak (by omega),q9];exact cu (by omega) (by omega)
     have hm:(IntKind.i64.wrap (s - (ins.length:Int))).tmod 2=(s - (ins.length:Int)) % 2:=by
      rw [gh,qI (by omega)]
     have fV:d < blocks.length:=by omega
     cbv
     refine ⟨⟨by decide⟩,⟨by decide⟩,λh=>?_,λh=>?_⟩
     ·cbv
      refine ⟨λh=>?_,λh=>?_⟩
      ·have mR:¬gk ins.length s:=by
        have h':(!aV ((IntKind.i64.wrap (s - (ins.length:Int))).tmod 2) 1)=true:=h.out
        rw [hm] at h'
        unfold gk
        simpa [aV] using h'
       have mP:rk d < rk b.toNat:=by
        have:=jK b.toNat x hx s (cb hs) b9 mR
        rw [show cS ins.length s=d from hd] at this
        exact this
       have fh:Qf m ⟨⟨ins,blocks,outs,ay⟩,gW,d,dF,rk,db,ps⟩:=⟨hp,eg,jK,hJ.w,by show 0<=(d:Int);omega,by show (d:Int) < blocks.length;omega,by have:=hJ.z;show lM gW<=m;omega,λc hc=>by
        show rk d < rk c
        rcases (hJ.one c).1 hc with h|h
        ·have:=MK c h;omega
        ·rw [h];exact mP,hK⟩
       cbv
       refine bV.jU ih (λa y=>trivial) ⟨⟨ins,blocks,outs,ay⟩,gW,d,dF,rk,db,ps⟩ [0,1,2,3,4,5,6,7,8,9] rfl (by exact bQ) (by exact ao) ⟨fh⟩ λy hy=>?_
       have hy:Kx ⟨⟨ins,blocks,outs,ay⟩,gW,d,dF,rk,db,ps⟩ y:=hy.out
       obtain ⟨res,lC,qT⟩:=y
       have hr:res=true:=hy.res
       have zF:pv ⟨ins,blocks,outs,ay⟩ gW d true lC:=hy.out
       have xg:mT ⟨ins,blocks,outs,ay⟩ db ps lC qT:=hy.key
       subst hr
       cbv
       refine ⟨λh=>?_,λh=>?_⟩
       ·have h':(!true)=true:=h.out
        cases h'
       ·have bB:=hJ.go hs ik (by rw [show cS ins.length s=d from hd];exact zF)
        cbv
        exact ⟨⟨j+1,lC,qT⟩,by exact ao,by exact ao,⟨⟨⟨bB,xg⟩,bh⟩⟩⟩
      ·have mR:gk ins.length s:=by
        have h':(!aV ((IntKind.i64.wrap (s - (ins.length:Int))).tmod 2) 1)=false:=h.out
        rw [hm] at h'
        unfold gk
        simpa [aV] using h'
       have bB:=hJ.skip hs (λh=>h.2 mR)
       cbv
       exact ⟨⟨j+1,gW,dF⟩,by exact ao,by exact ao,⟨⟨⟨bB,hK⟩,bh⟩⟩⟩
     ·exfalso
      have h':cV 0 (IntKind.i64.wrap ((IntKind.i64.wrap (s - (ins.length:Int))).tdiv 2))=false:=h.out
      rw [hc] at h'
      simp only [cV,decide_eq_false_iff_not] at h'
      exact aT
   ·have oe:j=x.ins.length:=by
     have h':aU j x.ins.length=false:=h.out
     have h2:¬(j:Int) < x.ins.length:=by simpa [aU] using h'
     omega
    have bX:=hJ.out hx ik oe
    have zh:St gW 1 b.toNat:=(hJ.one b.toNat).2 (.inr rfl)
    refine (⟨_,rfl⟩:∃l,gW.set b.toNat 2=l).elim λlC h3=>?_
    have XD:∀y:List Bool,Fv ⟨⟨ins,blocks,outs,ay⟩,dF,b,ps⟩ y->mT ⟨ins,blocks,outs,ay⟩ db ps lC y:=λy hy=>by
     rw [<-h3]
     refine hK.visit jK hx zh ur (λs hs h1 h2=>?_) (by rw [show ((b.toNat:Nat):Int)=b by omega];exact hy)
     obtain ⟨i,hi,e⟩:=Ao.1 hs
     exact hJ.ins i s (by omega) (by rw [eo hi,e]) h1 h2
    have Zb:Wb ⟨⟨ins,blocks,outs,ay⟩,dF,b,ps⟩:=⟨oP,QR,ef,dP,hK.ol,hp.used,λz hz=>(eg.formed z hz).k,λz hz=>(eg.formed z hz).bR.2,hK.new b.toNat x hx λh=>by have:=h.uniq zh;omega⟩
    rw [h3] at bX
    have CX:0<=b/\b.toNat < gW.length:=by have:=hJ.w.len;simp only at this;omega
    refine (bD CX.2).elim λu hu=>?_
    cbv
    refine ⟨⟨CX⟩,?_⟩
    cbv
    refine ⟨(u,2),⟨hu,rfl,by exact aK⟩,?_⟩
    cbv
    refine bV.jU anA (λa y=>trivial) ⟨⟨ins,blocks,outs,ay⟩,dF,b,ps⟩ [5,6,7,8,9] rfl (by exact bQ) (by exact ao) ⟨Zb⟩ λqT hy=>?_
    have xg:=XD qT hy.out
    have HF:Kx ⟨⟨ins,blocks,outs,ay⟩,st,b,out,rk,db,ps⟩ ⟨true,lC,qT⟩:=⟨rfl,bX,xg⟩
    cbv
    exact ⟨⟨true,lC,qT⟩,[],[],⟨by exact aK,trivial⟩,by have et:=h3;exact bJ,⟨HF⟩⟩
theorem abO:∀n,iM PP 179 (UP n)
 | 0=>aaD 0 λm h=>by omega
 | n+1=>aaD (n+1) λm h=>by
  cases Tu h
  exact abO n
theorem mT.all {p:bC} {db:List Bool} {s:jF} {st:List Int} {out:List Bool} (h:mT p db s st out) (ha:∀c,c < p.blocks.length->St st 2 c):out=zd p db s:=by
 refine oy λi=>?_
 unfold zd
 rw [m7]
 by_cases hi:i < p.ins.length+2*p.blocks.length
 ·rw [Jw hi]
  simp only [vT]
  unfold x5
  by_cases hw:i < p.ins.length
  ·rw [if_pos (by omega),h.pz i hw,ox]
  ·rw [if_neg (by omega)]
   have dP:cS p.ins.length (i:Int) < p.blocks.length:=by unfold cS;omega
   have hx:p.blocks[cS p.ins.length (i:Int)]?=some (p.blocks[cS p.ins.length (i:Int)]):=eo dP
   by_cases hf:gk p.ins.length (i:Int)
   ·rw [if_pos hf]
    have e:i=p.ins.length+2*cS p.ins.length (i:Int)+1:=by unfold gk at hf;unfold cS;omega
    conv=>lhs;rw [e]
    rw [h.aZ _ _ hx]
    unfold VR
    rw [hx]
   ·rw [if_neg hf]
    have e:i=p.ins.length+2*cS p.ins.length (i:Int):=by unfold gk at hf;unfold cS;omega
    conv=>lhs;rw [e]
    rw [h.done _ _ hx (ha _ dP)]
 ·rw [nW (by rw [h.ol];omega),nW (by simpa using hi)];rfl
structure aiv where
 p:bC
 out:List Bool
 r:Nat->Nat
 db:List Bool
 s:jF
structure Wd (x:aiv):Prop where
 w:xJ x.p
 sh:Shape x.p
 rk:k9 x.p x.r
 key:mT x.p x.db x.s [] x.out
@[reducible] noncomputable def aq0:na where
 α:=aiv
 args x:=[.agg (fH x.p),.fn (.func 218) [] [.ptr 0 0,.ptr 1 0,.ptr 3 0,.ptr 4 0]]
 io x:=Q5 x.p x.out x.s
 pre x:=Wd x
 β:=List Bool
 post x y:=y=zd x.p x.db x.s
 mv:=[]
 res x y:=.b (λ_=>true)
 kx x y:=Q5 x.p y x.s
structure WeL where
 b:Nat
 st:List Int
 out:List Bool
noncomputable def cWe (n m:Nat):Ctx:=eu n m [(179,Tryz.f179)] [] [179]
theorem agA (n m:Nat):CB PP (cWe n m):=ez n m ⟨fo Tryz.func179,trivial⟩ trivial
theorem aoB:iM PP 88 aq0:=by
 refine mM (agA 0 0) (fo Tryz.func88) (λa y=>rfl) (λa=>⟨rfl,rfl⟩) .nil ?_
 rintro ⟨⟨ins,blocks,outs,ay⟩,out,rk,db,ps⟩ hx
 have hx:Wd ⟨⟨ins,blocks,outs,ay⟩,out,rk,db,ps⟩:=hx
 have hp:=hx.w
 have eg:=hx.sh
 have jK:=hx.rk
 have rY:=hx.key
 simp only at hp eg jK rY
 clear hx
 have oP:blocks.length<=600:=hp.dK
 have e9:0<=(blocks.length:Int)/\8*(blocks.length:Int)<=281474976710656/\(blocks.length:Int)<=9223372036854775807:=by omega
 refine ⟨?_⟩
 cbv
 refine ⟨⟨e9.1,j5 _,e9.2.1,e9.2.2⟩,?_⟩
 cbv
 have ta:List.replicate ((blocks.length:Int)).toNat (0:Int)=List.replicate blocks.length 0:=by rw [ox]
 obtain ⟨zO,zq⟩:∃l,List.replicate ((blocks.length:Int)).toNat (0:Int)=l:=⟨_,rfl⟩
 have tG:uF ⟨ins,blocks,outs,ay⟩ 0 zO:=by rw [<-zq,ta];exact .start ⟨ins,blocks,outs,ay⟩
 have Fu:mT ⟨ins,blocks,outs,ay⟩ db ps zO out:=rY.same λc=>⟨λhc=>by
  rw [<-zq,ta] at hc
  have hm:=cb (show (List.replicate blocks.length (0:Int))[c]?=some 2 from hc)
  have:=(Eb.1 hm).2
  omega,λhc=>by cases hc⟩
 refine Sat.cf (agA 0 0) 10 7 [(.c 8 0,7)] (λx:WeL=>[(17,.i .i64 (λ_=>(blocks.length:Int))),(18,.i .i64 λ_=>(x.b:Int))]) (λx=>[(7,.dyn 3 1 bM λ_=>x.st),(2,.dyn 4 1 jb (λ_=>x.out))])
  (λx=>uF ⟨ins,blocks,outs,ay⟩ x.b x.st/\mT ⟨ins,blocks,outs,ay⟩ db ps x.st x.out) (λx=>blocks.length - x.b) ⟨0,zO,out⟩ (by exact ao) (by have et:=zq;exact bJ) ⟨tG,Fu⟩ ?_
 rintro ⟨b,st,dF⟩ ⟨hJ,hK⟩
 have hJ:uF ⟨ins,blocks,outs,ay⟩ b st:=hJ
 have hK:mT ⟨ins,blocks,outs,ay⟩ db ps st dF:=hK
 have dP:b<=blocks.length:=hJ.le
 have h0:=n0 b
 have h1:=cq (i:=b) (by omega)
 cbv
 refine ⟨λh=>?_,λh=>?_⟩
 ·have aR:b < blocks.length:=bI
  have bh:blocks.length - (b+1) < blocks.length - b:=by omega
  have fh:Qf (lM st) ⟨⟨ins,blocks,outs,ay⟩,st,b,dF,rk,db,ps⟩:=⟨hp,eg,jK,hJ.w,h0,by show (b:Int) < blocks.length;omega,cR _,λc hc=>absurd hc (hJ.one c),hK⟩
  cbv
  refine bV.jU (abO (lM st)) (λa y=>trivial) ⟨⟨ins,blocks,outs,ay⟩,st,b,dF,rk,db,ps⟩ [8,7,5,9,6,0,1,2,3,4] rfl (by exact bQ) (by exact ao) ⟨fh⟩ λy hy=>?_
  have hy:Kx ⟨⟨ins,blocks,outs,ay⟩,st,b,dF,rk,db,ps⟩ y:=hy.out
  obtain ⟨res,lC,qT⟩:=y
  have hr:res=true:=hy.res
  have zF:pv ⟨ins,blocks,outs,ay⟩ st b true lC:=hy.out
  have xg:mT ⟨ins,blocks,outs,ay⟩ db ps lC qT:=hy.key
  subst hr
  cbv
  refine ⟨λh=>?_,λh=>?_⟩
  ·have h':(!true)=true:=h.out
   cases h'
  ·have bB:=hJ.next aR zF
   cbv
   exact ⟨⟨b+1,lC,qT⟩,by exact ao,by exact ao,⟨⟨⟨bB,xg⟩,bh⟩⟩⟩
 ·have b9:b=blocks.length:=by
   have h':aU b blocks.length=false:=h.out
   have h2:¬(b:Int) < blocks.length:=by simpa [aU] using h'
   omega
  have bX:dF=zd ⟨ins,blocks,outs,ay⟩ db ps:=hK.all λc hc=>hJ.two c (by rw [b9];exact hc)
  cbv
  exact ⟨dF,[],[],⟨by exact aK,trivial⟩,by exact ao,⟨bX⟩⟩
end Go.Proofs.Pk
