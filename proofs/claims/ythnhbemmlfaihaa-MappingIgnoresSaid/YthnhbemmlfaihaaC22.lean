import Derived.Test.YthnhbemmlfaihaaC13
import Derived.Test.YthnhbemmlfaihaaC14
import Derived.Test.YthnhbemmlfaihaaC15
import Derived.Test.YthnhbemmlfaihaaC18
import Derived.Test.YthnhbemmlfaihaaC21
set_option linter.unusedVariables false
set_option linter.unusedSimpArgs false
set_option maxRecDepth 10000
set_option maxHeartbeats 64000000
namespace Go.Proofs.Pk
open Go Go.Vc
def qJ (n:List (List Int)) (u:List Int):List (List Int):=if u.length<=4 then kU n u else n
structure kJ (N:List (List Int)) (c:Nat):Prop where
 len:N.length<=c
 mem:∀y∈N,y.length<=4
theorem TR (N:List (List Int)) (u:List Int):(kU N u).length<=N.length+1:=by
 unfold kU
 split
 ·omega
 ·rw [fJ]
  have:=Dl (λy=>!dt u y) N
  simp only [yY];omega
theorem adI {N:List (List Int)} {u y:List Int} (h:y∈kU N u):y∈N\/y=u:=by
 unfold kU at h
 split at h
 ·exact .inl h
 ·rcases eA.1 h with h|h
  ·exact .inl (k9.1 h).1
  ·exact .inr (by simpa using h)
theorem kJ.next {N:List (List Int)} {c:Nat} (h:kJ N c) {u:List Int} (hu:u.length<=4):kJ (kU N u) (c+1) :=
 ⟨by have:=TR N u;have:=h.len;omega,λy hy=>by rcases adI hy with hy|rfl;exact h.mem y hy;exact hu⟩
theorem kJ.up {N:List (List Int)} {c d:Nat} (h:kJ N c) (hd:c<=d):kJ N d:=⟨mV h.len hd,h.mem⟩
theorem acu {A Co:List (List Int)} {i:Nat} {a:List Int} (h:A[i]?=some a):pY (A.take (i+1)) Co=(Co.map λb=>jP a b).foldl qJ (pY (A.take i) Co):=by
 unfold pY
 rw [jm,h,nJ,List.flatMap_append,List.foldl_append,oZ,List.flatMap_nil,yR]
 rfl
theorem adJ {Co:List (List Int)} {a b:List Int} {j:Nat} {N:List (List Int)} (h:Co[j]?=some b):((Co.take (j+1)).map λb=>jP a b).foldl qJ N=qJ (((Co.take j).map λb=>jP a b).foldl qJ N) (jP a b):=by
 rw [jm,h,nJ,vy,List.foldl_append]
 rfl
def Ca (C:List (List (List Int))) (ops:List Int) (k:Nat):List (List Int):=(ops.take k).foldl (λall o=>pY all (C.getD o.toNat [])) [[]]
theorem acv {C:List (List (List Int))} {ops:List Int} {k:Nat} {o:Int} {Co:List (List Int)} (h:ops[k]?=some o) (hc:C[o.toNat]?=some Co):Ca C ops (k+1)=pY (Ca C ops k) Co:=by
 unfold Ca
 rw [jm,h,nJ,List.foldl_append,mj,Dx,List.getD_eq_getElem?_getD,hc]
 rfl
theorem adK (C:List (List (List Int))) (ops:List Int) {k:Nat} (h:ops.length<=k):n7 (Ca C ops k)=nO C ops:=by
 unfold Ca nO
 rw [jj h]
structure EZ (C:List (List (List Int))) (ops:List Int) (M:List (List Int)):Prop where
 arh:ops.length<=3
 mem:∀o∈ops,0<=o/\o < C.length
 jt:∀c∈C,c.length<=400
 len:∀c∈C,∀l∈c,l.length<=4
 eq:nO C ops=M
 ne:0 < M.length
structure aiM where
 n:Net
 s:dJ
 ops:List Int
 M:List (List Int)
@[reducible] noncomputable def MgS:nU where
 α:=aiM
 args x:=[.ptr 0 0,.sl 1 bH (λ_=>x.ops)]
 io x:=B9 x.n x.s 0++[.dead]
 pre x:=EZ x.s.e6 x.ops x.M
 β:=Unit
 post _ _:=True
 mv:=[4]
 res _ _:=.own 4
 kZ x _:=B9 x.n x.s 0++[.dyn 32 1 fR (λ_=>x.M)]
noncomputable def aiN (n m:Nat):Ctx:=cP n m [(55,Try.f55),(56,Try.f56)] [(54,Oa)] [55,56] [] [] [39] [32]
theorem afL (n m:Nat):CB PP (aiN n m):=cR n m ⟨fo Try.func55,fo Try.func56,trivial⟩ ⟨Vm,trivial⟩
noncomputable def cMg (n m:Nat):Ctx:=cP n m [(55,Try.f55),(56,Try.f56)] [(54,Oa)] [55,56] [] [17] [39] [32]
theorem Ix (n m:Nat):CB PP (cMg n m):=cR n m ⟨fo Try.func55,fo Try.func56,trivial⟩ ⟨Vm,trivial⟩
theorem ahk:lW PP 45 MgS:=by
 refine qV (Ix 1 0) (fo Try.func45) (λa y=>rfl) (λa=>⟨rfl,rfl⟩) (by show ([4]:List Nat).Nodup;decide) ?_
 rintro ⟨n,⟨LL,C,FF⟩,ops,M⟩ hx
 obtain ⟨zX,fL,aiO,hlen,heq,bM⟩:EZ C ops M:=hx
 obtain ⟨Af,wD⟩:∃Af:Nat->List (List Int),∀k,Af k=Ca C ops k:=⟨_,λ_=>rfl⟩
 have ahl:∀o∈ops,0<=o/\o.toNat < C.length:=λo ho=>by have:=fL o ho;omega
 have yd:[[]]=Af 0:=by rw [wD];rfl
 have aiP:kJ (Af 0) (400^0):=by rw [<-yd];exact ⟨fP _,λy hy=>by simp at hy;subst hy;exact cK _⟩
 have Xr:∀k,k<=ops.length->400^k<=64000000:=λk hk=>mV (Lc (by omega) (mV hk zX)) (by decide)
 refine ⟨?_⟩
 cbv
 refine ⟨[[]],⟨by exact a7,rfl⟩,?_⟩
 cbv
 refine Sat.eE (Ix 1 0) 7 5 [(.t 5,6)] (λk:Nat=>[(5,.own 6),(16,.sl 1 bH (λ_=>ops)),(17,.i .i64 (λ_=>(ops.length:Int))),(18,.i .i64 (λ_=>(k:Int)))]) (λk=>[(6,.dyn 32 1 fR (λ_=>Af k))]) (λk=>k<=ops.length/\kJ (Af k) (400^k)) (λk=>ops.length - k) 0 (by exact aW) (by have eG:=yd;exact a8) ⟨cK _,aiP⟩ ?_
 intro k hk
 obtain ⟨hk,I6⟩:k<=ops.length/\kJ (Af k) (400^k):=hk
 have sr:=n0 k
 have kH:=eO (i:=k) (by omega)
 obtain ⟨A,hA⟩:∃A,Af k=A:=⟨_,rfl⟩
 rw [hA] at I6
 have nk:=I6.len
 have hpk:=Xr k hk
 cbv
 refine ⟨λh=>?_,λh=>?_⟩
 rotate_left
 ·have b9:ops.length<=k:=aL
  have hM:n7 A=M:=by rw [<-hA,wD,adK C ops b9,heq]
  have hAM:A.length=M.length:=by rw [<-hM];exact (wX A).length_eq.symm
  have dL:0 < A.length/\A.length < 4611686018427387904/\∀l∈A,l.length<=1000000:=⟨by omega,by omega,λl hl=>by have:=I6.mem l hl;omega⟩
  cbv
  refine iW.tM aeQ (λa y=>trivial) A [6] rfl (by exact a7) (by have eG:=hA;exact a8) ⟨dL⟩ λ_ _=>?_
  cbv
  refine ⟨(),[],[(0,4)],?_,by have eG:=hM;exact a8,⟨trivial⟩⟩
  cbv
  exact ⟨by exact gw,trivial⟩
 have dI:k < ops.length:=aL
 refine (cC dI).elim λo ho=>?_
 obtain ⟨ho0,Fj⟩:=ahl o (cL ho)
 refine (cC (l:=C) (i:=o.toNat) Fj).elim λCo JQ=>?_
 have Zt:=aiO Co (cL JQ)
 have hCm:=hlen Co (cL JQ)
 have Ag:0<=o/\o.toNat < C.length:=⟨ho0,Fj⟩
 have cy:ops.length - (k+1) < ops.length - k:=by omega
 have PF:pY A Co=Af (k+1):=by rw [wD,acv ho JQ,<-wD,hA]
 obtain ⟨Sf,qh⟩:∃Sf:Nat->List (List Int),∀i,Sf i=pY (A.take i) Co:=⟨_,λ_=>rfl⟩
 have JR:[]=Sf 0:=by rw [qh];rfl
 have aiQ:kJ (Sf 0) (0*400):=by rw [<-JR];exact ⟨cK _,λy hy=>by cases hy⟩
 have yl:∀i,A.length<=i->Sf i=Af (k+1):=λi hi=>by rw [qh,jj hi,PF]
 have hAl:(((Af k).length:Nat):Int)=A.length:=by rw [hA]
 clear h
 cbv
 refine ⟨o,⟨sr,ho⟩,?_⟩
 cbv
 refine Sat.zB 8 32 1 MB qF rfl ?_
 cbv
 refine Sat.eE (Ix 1 0) 8 8 [(.t 8,7)] (λi:Nat=>[(8,.own 7),(16,.sl 1 bH (λ_=>ops)),(17,.i .i64 (λ_=>(ops.length:Int))),(18,.i .i64 (λ_=>(k:Int))),(22,.own 6),(23,.i .i64 (λ_=>(A.length:Int))),(24,.i .i64 (λ_=>(i:Int)))]) (λi=>[(7,.dyn 32 1 fR (λ_=>Sf i))]) (λi=>i<=A.length/\kJ (Sf i) (i*400)) (λi=>A.length - i) 0 (by have bE:=hAl;exact a8) (by have eG:=JR;have pv:=hA;exact a8) ⟨cK _,aiQ⟩ ?_
 intro i hi
 obtain ⟨hi,Xs⟩:i<=A.length/\kJ (Sf i) (i*400):=hi
 have dP:=n0 i
 have gB:=eO (i:=i) (by omega)
 cbv
 refine ⟨λh=>?_,λh=>?_⟩
 rotate_left
 ·have b9:A.length<=i:=aL
  have FK:=yl i b9
  have Oc:kJ (Af (k+1)) (400^(k+1)):=by rw [<-FK];exact Xs.up (by rw [Nat.pow_succ];exact ud _ (mV hi nk))
  have gl:(k+1<=ops.length/\kJ (Af (k+1)) (400^(k+1)))/\ops.length - (k+1) < ops.length - k:=⟨⟨dI,Oc⟩,cy⟩
  cbv
  refine Sat.kill 6 ?_
  refine Sat.iR (afL 1 0) ?_
  cbv
  exact ⟨k+1,by have bE:=kH;exact a8,by have eG:=FK;exact a8,⟨gl⟩⟩
 have bP:i < A.length:=aL
 refine (cC bP).elim λa ha=>?_
 have ham:a.length<=4:=I6.mem a (cL ha)
 have wm:0<=(i:Int)/\(i:Int).toNat < (Af k).length:=⟨dP,by rw [hA];exact bP⟩
 have qX:(Af k)[(i:Int).toNat]?=some a:=by rw [hA];exact ha
 have hmi:A.length - (i+1) < A.length - i:=by omega
 have CJ:i*400<=64000000:=by
  have h1:=Xr (k+1) dI
  have h2:=ud 400 (mV (Nat.le_of_lt bP) nk)
  rw [<-Nat.pow_succ] at h2
  omega
 obtain ⟨Rf,mH⟩:∃Rf:Nat->List (List Int),∀j,Rf j=((Co.take j).map λb=>jP a b).foldl qJ (Sf i):=⟨_,λ_=>rfl⟩
 have CK:Sf i=Rf 0:=by rw [mH];rfl
 have aiR:kJ (Rf 0) (i*400+0):=by rw [<-CK];exact Xs
 have Aw:∀j,Co.length<=j->Rf j=Sf (i+1):=λj hj=>by rw [mH,jj hj,qh (i+1),acu ha,<-qh]
 have hRs:∀j b,Co[j]?=some b->Rf (j+1)=qJ (Rf j) (jP a b):=λj b hb=>by rw [mH,adJ hb,<-mH]
 clear h
 cbv
 refine ⟨⟨wm⟩,a,⟨qX,rfl⟩,?_⟩
 cbv
 refine ⟨⟨Ag⟩,Co,⟨JQ,rfl⟩,?_⟩
 cbv
 refine Sat.eE (Ix 1 0) 8 8 [(.t 8,7)] (λj:Nat=>[(8,.own 7),(10,.sl 1 bH (λ_=>a)),(16,.sl 1 bH (λ_=>ops)),(17,.i .i64 (λ_=>(ops.length:Int))),(18,.i .i64 (λ_=>(k:Int))),(22,.own 6),(23,.i .i64 (λ_=>(A.length:Int))),(24,.i .i64 (λ_=>(i:Int))),(34,.sl 1 fR (λ_=>Co)),(35,.i .i64 (λ_=>(Co.length:Int))),(36,.i .i64 (λ_=>(j:Int)))]) (λj=>[(7,.dyn 32 1 fR (λ_=>Rf j))]) (λj=>j<=Co.length/\kJ (Rf j) (i*400+j)) (λj=>Co.length - j) 0 (by exact aW) (by have eG:=CK;exact a8) ⟨cK _,aiR⟩ ?_
 intro j hj
 obtain ⟨hj,Cb⟩:j<=Co.length/\kJ (Rf j) (i*400+j):=hj
 have l7:=n0 j
 have oS:=eO (i:=j) (by omega)
 cbv
 refine ⟨λh=>?_,λh=>?_⟩
 rotate_left
 ·have b9:Co.length<=j:=aL
  have FK:=Aw j b9
  have Oc:kJ (Sf (i+1)) ((i+1)*400):=by rw [<-FK];exact Cb.up (by omega)
  have gl:(i+1<=A.length/\kJ (Sf (i+1)) ((i+1)*400))/\A.length - (i+1) < A.length - i:=⟨⟨bP,Oc⟩,hmi⟩
  cbv
  exact ⟨i+1,by have bE:=gB;exact a8,by have eG:=FK;exact a8,⟨gl⟩⟩
 have e7:j < Co.length:=aL
 refine (cC e7).elim λb hb=>?_
 have px:b.length<=4:=hCm b (cL hb)
 have hpu:a.length<=100000/\b.length<=100000:=by omega
 obtain ⟨u,hu⟩:∃u,jP a b=u:=⟨_,rfl⟩
 have PG:Rf (j+1)=qJ (Rf j) u:=by rw [hRs j b hb,hu]
 obtain ⟨N,hN⟩:∃N,Rf j=N:=⟨_,rfl⟩
 rw [hN] at Cb PG
 have Zu:Co.length - (j+1) < Co.length - j:=by omega
 have Od:u.length<=4->(kU N u=Rf (j+1)/\kJ (Rf (j+1)) (i*400+(j+1))):=λh4=>by
  have e:kU N u=Rf (j+1):=by rw [PG,qJ,if_pos h4]
  exact ⟨e,by rw [<-e];exact Cb.next h4⟩
 have du:¬u.length<=4->(N=Rf (j+1)/\kJ (Rf (j+1)) (i*400+(j+1))):=λh4=>by
  have e:N=Rf (j+1):=by rw [PG,qJ,if_neg h4]
  exact ⟨e,by rw [<-e];exact Cb.up (by omega)⟩
 have hNl:=Cb.len
 have hNm:=Cb.mem
 clear h
 cbv
 refine ⟨b,⟨l7,hb⟩,?_⟩
 cbv
 refine ⟨⟨a,b⟩,⟨by exact a7,hpu⟩,?_⟩
 cbv
 refine ⟨λh=>?_,λh=>?_⟩
 ·have h4:u.length<=4:=by have h':(jP a b).length<=4:=aL;rw [hu] at h';exact h'
  obtain ⟨e1,e2⟩:=Od h4
  have dL:EY ⟨some N,u⟩:=⟨by show u.length<=1000000;omega,by show N.length<=1000000000;omega,λy hy=>by have:=hNm y hy;omega⟩
  have gl:(j+1<=Co.length/\kJ (Rf (j+1)) (i*400+(j+1)))/\Co.length - (j+1) < Co.length - j:=⟨⟨e7,e2⟩,Zu⟩
  cbv
  refine iW.io ahj ⟨some N,u⟩ [7] rfl (by have iz:=hu;exact bJ) (by have eG:=hN;exact a8) ⟨dL⟩ λ_ _=>?_
  cbv
  exact ⟨j+1,by have bE:=oS;exact a8,by have eG:=e1;exact a8,⟨gl⟩⟩
 ·have h4:¬u.length<=4:=by have h':4 < (jP a b).length:=aL;rw [hu] at h';omega
  obtain ⟨e1,e2⟩:=du h4
  have gl:(j+1<=Co.length/\kJ (Rf (j+1)) (i*400+(j+1)))/\Co.length - (j+1) < Co.length - j:=⟨⟨e7,e2⟩,Zu⟩
  have e3:=hN.trans e1
  cbv
  exact ⟨j+1,by have bE:=oS;exact a8,by have eG:=e3;exact a8,⟨gl⟩⟩
end Go.Proofs.Pk
