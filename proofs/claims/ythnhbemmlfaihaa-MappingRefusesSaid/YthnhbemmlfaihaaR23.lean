import Derived.Test.YthnhbemmlfaihaaR13
import Derived.Test.YthnhbemmlfaihaaR14
import Derived.Test.YthnhbemmlfaihaaR16
import Derived.Test.YthnhbemmlfaihaaR19
import Derived.Test.YthnhbemmlfaihaaR22
set_option linter.unusedVariables false
set_option linter.unusedSimpArgs false
set_option maxRecDepth 10000
set_option maxHeartbeats 64000000
namespace Go.Proofs.Pk
open Go Go.Vc
def qX (n:List (List Int)) (u:List Int):List (List Int):=if u.length<=4 then lh n u else n
structure kT (N:List (List Int)) (c:Nat):Prop where
 len:N.length<=c
 mem:∀y∈N,y.length<=4
theorem Uo (N:List (List Int)) (u:List Int):(lh N u).length<=N.length+1:=by
 unfold lh
 split
 ·omega
 ·rw [fS]
  have:=DV (λy=>!dx u y) N
  simp only [zt];omega
theorem aej {N:List (List Int)} {u y:List Int} (h:y∈lh N u):y∈N\/y=u:=by
 unfold lh at h
 split at h
 ·exact .inl h
 ·rcases eE.1 h with h|h
  ·exact .inl (lD.1 h).1
  ·exact .inr (by simpa using h)
theorem kT.next {N:List (List Int)} {c:Nat} (h:kT N c) {u:List Int} (hu:u.length<=4):kT (lh N u) (c+1) :=
 ⟨by have:=Uo N u;have:=h.len;omega,λy hy=>by rcases aej hy with hy|rfl;exact h.mem y hy;exact hu⟩
theorem kT.up {N:List (List Int)} {c d:Nat} (h:kT N c) (hd:c<=d):kT N d:=⟨nj h.len hd,h.mem⟩
theorem ac2 {A Co:List (List Int)} {i:Nat} {a:List Int} (h:A[i]?=some a):qj (A.take (i+1)) Co=(Co.map λb=>jX a b).foldl qX (qj (A.take i) Co):=by
 unfold qj
 rw [ju,h,nX,List.flatMap_append,List.foldl_append,oM,List.flatMap_nil,zm]
 rfl
theorem aek {Co:List (List Int)} {a b:List Int} {j:Nat} {N:List (List Int)} (h:Co[j]?=some b):((Co.take (j+1)).map λb=>jX a b).foldl qX N=qX (((Co.take j).map λb=>jX a b).foldl qX N) (jX a b):=by
 rw [ju,h,nX,vS,List.foldl_append]
 rfl
def CI (C:List (List (List Int))) (ops:List Int) (k:Nat):List (List Int):=(ops.take k).foldl (λall o=>qj all (C.getD o.toNat [])) [[]]
theorem ac3 {C:List (List (List Int))} {ops:List Int} {k:Nat} {o:Int} {Co:List (List Int)} (h:ops[k]?=some o) (hc:C[o.toNat]?=some Co):CI C ops (k+1)=qj (CI C ops k) Co:=by
 unfold CI
 rw [ju,h,nX,List.foldl_append,mA,Ed,List.getD_eq_getElem?_getD,hc]
 rfl
theorem ael (C:List (List (List Int))) (ops:List Int) {k:Nat} (h:ops.length<=k):ov (CI C ops k)=n9 C ops:=by
 unfold CI n9
 rw [jt h]
structure FH (C:List (List (List Int))) (ops:List Int) (M:List (List Int)):Prop where
 ar0:ops.length<=3
 mem:∀o∈ops,0<=o/\o < C.length
 gy:∀c∈C,c.length<=400
 len:∀c∈C,∀l∈c,l.length<=4
 eq:n9 C ops=M
 ne:0 < M.length
structure ajs where
 n:Net
 s:dV
 ops:List Int
 M:List (List Int)
@[reducible] noncomputable def MgS:oj where
 α:=ajs
 args x:=[.ptr 0 0,.sl 1 bK (λ_=>x.ops)]
 io x:=CH x.n x.s 0++[.dead]
 pre x:=FH x.s.gv x.ops x.M
 β:=Unit
 post _ _:=True
 mv:=[4]
 res _ _:=.own 4
 lz x _:=CH x.n x.s 0++[.dyn 32 1 fP (λ_=>x.M)]
noncomputable def ajt (n m:Nat):Ctx:=cT n m [(55,Try.f55),(56,Try.f56)] [(54,OJ)] [55,56] [] [] [39] [32]
theorem agk (n m:Nat):CB PP (ajt n m):=cW n m ⟨fo Try.func55,fo Try.func56,trivial⟩ ⟨VS,trivial⟩
noncomputable def cMg (n m:Nat):Ctx:=cT n m [(55,Try.f55),(56,Try.f56)] [(54,OJ)] [55,56] [] [17] [39] [32]
theorem I8 (n m:Nat):CB PP (cMg n m):=cW n m ⟨fo Try.func55,fo Try.func56,trivial⟩ ⟨VS,trivial⟩
theorem ahX:ma PP 45 MgS:=by
 refine rp (I8 1 0) (fo Try.func45) (λa y=>rfl) (λa=>⟨rfl,rfl⟩) (by show ([4]:List Nat).Nodup;decide) ?_
 rintro ⟨n,⟨LL,C,FF⟩,ops,M⟩ hx
 obtain ⟨Au,fQ,Jz,hlen,heq,bL⟩:FH C ops M:=hx
 obtain ⟨Af,wX⟩:∃Af:Nat->List (List Int),∀k,Af k=CI C ops k:=⟨_,λ_=>rfl⟩
 have ahY:∀o∈ops,0<=o/\o.toNat < C.length:=λo ho=>by have:=fQ o ho;omega
 have yN:[[]]=Af 0:=by rw [wX];rfl
 have aju:kT (Af 0) (400^0):=by rw [<-yN];exact ⟨fT _,λy hy=>by simp at hy;subst hy;exact cP _⟩
 have X3:∀k,k<=ops.length->400^k<=64000000:=λk hk=>nj (LJ (by omega) (nj hk Au)) (by decide)
 refine ⟨?_⟩
 cbv
 refine ⟨[[]],⟨by exact aY,rfl⟩,?_⟩
 cbv
 refine Sat.eI (I8 1 0) 7 5 [(.t 5,6)] (λk:Nat=>[(5,.own 6),(16,.sl 1 bK (λ_=>ops)),(17,.i .i64 (λ_=>(ops.length:Int))),(18,.i .i64 (λ_=>(k:Int)))]) (λk=>[(6,.dyn 32 1 fP (λ_=>Af k))]) (λk=>k<=ops.length/\kT (Af k) (400^k)) (λk=>ops.length - k) 0 (by exact aX) (by have eu:=yN;exact bp) ⟨cP _,aju⟩ ?_
 intro k hk
 obtain ⟨hk,JA⟩:k<=ops.length/\kT (Af k) (400^k):=hk
 have sI:=n0 k
 have kR:=eU (i:=k) (by omega)
 obtain ⟨A,hA⟩:∃A,Af k=A:=⟨_,rfl⟩
 rw [hA] at JA
 have nF:=JA.len
 have hpk:=X3 k hk
 cbv
 refine ⟨λh=>?_,λh=>?_⟩
 rotate_left
 ·have cf:ops.length<=k:=aJ
  have hM:ov A=M:=by rw [<-hA,wX,ael C ops cf,heq]
  have hAM:A.length=M.length:=by rw [<-hM];exact (xw A).length_eq.symm
  have dU:0 < A.length/\A.length < 4611686018427387904/\∀l∈A,l.length<=1000000:=⟨by omega,by omega,λl hl=>by have:=JA.mem l hl;omega⟩
  cbv
  refine iP.ue afp (λa y=>trivial) A [6] rfl (by exact aY) (by have eu:=hA;exact bp) ⟨dU⟩ λ_ _=>?_
  cbv
  refine ⟨(),[],[(0,4)],?_,by have eu:=hM;exact bp,⟨trivial⟩⟩
  cbv
  exact ⟨by exact fj,trivial⟩
 have dP:k < ops.length:=aJ
 refine (cy dP).elim λo ho=>?_
 obtain ⟨Pf,F1⟩:=ahY o (cN ho)
 refine (cy (l:=C) (i:=o.toNat) F1).elim λCo Kp=>?_
 have Z5:=Jz Co (cN Kp)
 have hCm:=hlen Co (cN Kp)
 have AI:0<=o/\o.toNat < C.length:=⟨Pf,F1⟩
 have cD:ops.length - (k+1) < ops.length - k:=by omega
 have P9:qj A Co=Af (k+1):=by rw [wX,ac3 ho Kp,<-wX,hA]
 obtain ⟨Sf,qu⟩:∃Sf:Nat->List (List Int),∀i,Sf i=qj (A.take i) Co:=⟨_,λ_=>rfl⟩
 have Kq:[]=Sf 0:=by rw [qu];rfl
 have ajv:kT (Sf 0) (0*400):=by rw [<-Kq];exact ⟨cP _,λy hy=>by cases hy⟩
 have yT:∀i,A.length<=i->Sf i=Af (k+1):=λi hi=>by rw [qu,jt hi,P9]
 have hAl:(((Af k).length:Nat):Int)=A.length:=by rw [hA]
 clear h
 cbv
 refine ⟨o,⟨sI,ho⟩,?_⟩
 cbv
 refine Sat.z8 8 32 1 M8 qS rfl ?_
 cbv
 refine Sat.eI (I8 1 0) 8 8 [(.t 8,7)] (λi:Nat=>[(8,.own 7),(16,.sl 1 bK (λ_=>ops)),(17,.i .i64 (λ_=>(ops.length:Int))),(18,.i .i64 (λ_=>(k:Int))),(22,.own 6),(23,.i .i64 (λ_=>(A.length:Int))),(24,.i .i64 (λ_=>(i:Int)))]) (λi=>[(7,.dyn 32 1 fP (λ_=>Sf i))]) (λi=>i<=A.length/\kT (Sf i) (i*400)) (λi=>A.length - i) 0 (by have bI:=hAl;exact bp) (by have eu:=Kq;have pI:=hA;exact bp) ⟨cP _,ajv⟩ ?_
 intro i hi
 obtain ⟨hi,X4⟩:i<=A.length/\kT (Sf i) (i*400):=hi
 have dY:=n0 i
 have gH:=eU (i:=i) (by omega)
 cbv
 refine ⟨λh=>?_,λh=>?_⟩
 rotate_left
 ·have cf:A.length<=i:=aJ
  have Gn:=yT i cf
  have OL:kT (Af (k+1)) (400^(k+1)):=by rw [<-Gn];exact X4.up (by rw [Nat.pow_succ];exact uz _ (nj hi nF))
  have gn:(k+1<=ops.length/\kT (Af (k+1)) (400^(k+1)))/\ops.length - (k+1) < ops.length - k:=⟨⟨dP,OL⟩,cD⟩
  cbv
  refine Sat.kill 6 ?_
  refine Sat.jN (agk 1 0) ?_
  cbv
  exact ⟨k+1,by have bI:=kR;exact bp,by have eu:=Gn;exact bp,⟨gn⟩⟩
 have bU:i < A.length:=aJ
 refine (cy bU).elim λa ha=>?_
 have ham:a.length<=4:=JA.mem a (cN ha)
 have wM:0<=(i:Int)/\(i:Int).toNat < (Af k).length:=⟨dY,by rw [hA];exact bU⟩
 have rv:(Af k)[(i:Int).toNat]?=some a:=by rw [hA];exact ha
 have hmi:A.length - (i+1) < A.length - i:=by omega
 have Dh:i*400<=64000000:=by
  have h1:=X3 (k+1) dP
  have h2:=uz 400 (nj (Nat.le_of_lt bU) nF)
  rw [<-Nat.pow_succ] at h2
  omega
 obtain ⟨Rf,mT⟩:∃Rf:Nat->List (List Int),∀j,Rf j=((Co.take j).map λb=>jX a b).foldl qX (Sf i):=⟨_,λ_=>rfl⟩
 have Di:Sf i=Rf 0:=by rw [mT];rfl
 have ajw:kT (Rf 0) (i*400+0):=by rw [<-Di];exact X4
 have AX:∀j,Co.length<=j->Rf j=Sf (i+1):=λj hj=>by rw [mT,jt hj,qu (i+1),ac2 ha,<-qu]
 have hRs:∀j b,Co[j]?=some b->Rf (j+1)=qX (Rf j) (jX a b):=λj b hb=>by rw [mT,aek hb,<-mT]
 clear h
 cbv
 refine ⟨⟨wM⟩,a,⟨rv,rfl⟩,?_⟩
 cbv
 refine ⟨⟨AI⟩,Co,⟨Kp,rfl⟩,?_⟩
 cbv
 refine Sat.eI (I8 1 0) 8 8 [(.t 8,7)] (λj:Nat=>[(8,.own 7),(10,.sl 1 bK (λ_=>a)),(16,.sl 1 bK (λ_=>ops)),(17,.i .i64 (λ_=>(ops.length:Int))),(18,.i .i64 (λ_=>(k:Int))),(22,.own 6),(23,.i .i64 (λ_=>(A.length:Int))),(24,.i .i64 (λ_=>(i:Int))),(34,.sl 1 fP (λ_=>Co)),(35,.i .i64 (λ_=>(Co.length:Int))),(36,.i .i64 (λ_=>(j:Int)))]) (λj=>[(7,.dyn 32 1 fP (λ_=>Rf j))]) (λj=>j<=Co.length/\kT (Rf j) (i*400+j)) (λj=>Co.length - j) 0 (by exact aX) (by have eu:=Di;exact bp) ⟨cP _,ajw⟩ ?_
 intro j hj
 obtain ⟨hj,CJ⟩:j<=Co.length/\kT (Rf j) (i*400+j):=hj
 have mi:=n0 j
 have pb:=eU (i:=j) (by omega)
 cbv
 refine ⟨λh=>?_,λh=>?_⟩
 rotate_left
 ·have cf:Co.length<=j:=aJ
  have Gn:=AX j cf
  have OL:kT (Sf (i+1)) ((i+1)*400):=by rw [<-Gn];exact CJ.up (by omega)
  have gn:(i+1<=A.length/\kT (Sf (i+1)) ((i+1)*400))/\A.length - (i+1) < A.length - i:=⟨⟨bU,OL⟩,hmi⟩
  cbv
  exact ⟨i+1,by have bI:=gH;exact bp,by have eu:=Gn;exact bp,⟨gn⟩⟩
 have e8:j < Co.length:=aJ
 refine (cy e8).elim λb hb=>?_
 have pJ:b.length<=4:=hCm b (cN hb)
 have hpu:a.length<=100000/\b.length<=100000:=by omega
 obtain ⟨u,hu⟩:∃u,jX a b=u:=⟨_,rfl⟩
 have Qa:Rf (j+1)=qX (Rf j) u:=by rw [hRs j b hb,hu]
 obtain ⟨N,hN⟩:∃N,Rf j=N:=⟨_,rfl⟩
 rw [hN] at CJ Qa
 have Z6:Co.length - (j+1) < Co.length - j:=by omega
 have OM:u.length<=4->(lh N u=Rf (j+1)/\kT (Rf (j+1)) (i*400+(j+1))):=λh4=>by
  have e:lh N u=Rf (j+1):=by rw [Qa,qX,if_pos h4]
  exact ⟨e,by rw [<-e];exact CJ.next h4⟩
 have di:¬u.length<=4->(N=Rf (j+1)/\kT (Rf (j+1)) (i*400+(j+1))):=λh4=>by
  have e:N=Rf (j+1):=by rw [Qa,qX,if_neg h4]
  exact ⟨e,by rw [<-e];exact CJ.up (by omega)⟩
 have hNl:=CJ.len
 have hNm:=CJ.mem
 clear h
 cbv
 refine ⟨b,⟨mi,hb⟩,?_⟩
 cbv
 refine ⟨⟨a,b⟩,⟨by exact aY,hpu⟩,?_⟩
 cbv
 refine ⟨λh=>?_,λh=>?_⟩
 ·have h4:u.length<=4:=by have h':(jX a b).length<=4:=aJ;rw [hu] at h';exact h'
  obtain ⟨e1,e2⟩:=OM h4
  have dU:FG ⟨some N,u⟩:=⟨by show u.length<=1000000;omega,by show N.length<=1000000000;omega,λy hy=>by have:=hNm y hy;omega⟩
  have gn:(j+1<=Co.length/\kT (Rf (j+1)) (i*400+(j+1)))/\Co.length - (j+1) < Co.length - j:=⟨⟨e8,e2⟩,Z6⟩
  cbv
  refine iP.io ahW ⟨some N,u⟩ [7] rfl (by have gM:=hu;exact bN) (by have eu:=hN;exact bp) ⟨dU⟩ λ_ _=>?_
  cbv
  exact ⟨j+1,by have bI:=pb;exact bp,by have eu:=e1;exact bp,⟨gn⟩⟩
 ·have h4:¬u.length<=4:=by have h':4 < (jX a b).length:=aJ;rw [hu] at h';omega
  obtain ⟨e1,e2⟩:=di h4
  have gn:(j+1<=Co.length/\kT (Rf (j+1)) (i*400+(j+1)))/\Co.length - (j+1) < Co.length - j:=⟨⟨e8,e2⟩,Z6⟩
  have e3:=hN.trans e1
  cbv
  exact ⟨j+1,by have bI:=pb;exact bp,by have eu:=e3;exact bp,⟨gn⟩⟩
end Go.Proofs.Pk
