import Derived.Test.YthnhbemmlfaihaaGreatO13
import Derived.Test.YthnhbemmlfaihaaGreatO14
import Derived.Test.YthnhbemmlfaihaaGreatO21
import Derived.Test.YthnhbemmlfaihaaGreatO24
import Derived.Test.YthnhbemmlfaihaaGreatO27
set_option linter.unusedVariables false
set_option linter.unusedSimpArgs false
set_option maxRecDepth 10000
set_option maxHeartbeats 64000000
namespace Go.Proofs.Pk
open Go Go.Vc
def th (n:List (List Int)) (u:List Int):List (List Int):=if u.length<=4 then ia n u else n
structure l9 (N:List (List Int)) (c:Nat):Prop where
 len:N.length<=c
 mem:∀y∈N,y.length<=4
theorem YG (N:List (List Int)) (u:List Int):(ia N u).length<=N.length+1:=by
 unfold ia
 split
 ·omega
 ·rw [List.length_append]
  have:=D9 (λy=>!dF u y) N
  simp only [sZ];omega
theorem ajv {N:List (List Int)} {u y:List Int} (h:y∈ia N u):y∈N\/y=u:=by
 unfold ia at h
 split at h
 ·exact .inl h
 ·rcases dD.1 h with h|h
  ·exact .inl (lP.1 h).1
  ·exact .inr (by simpa using h)
theorem l9.next {N:List (List Int)} {c:Nat} (h:l9 N c) {u:List Int} (hu:u.length<=4):l9 (ia N u) (c+1) :=
 ⟨by have:=YG N u;have:=h.len;omega,λy hy=>by rcases ajv hy with hy|rfl;exact h.mem y hy;exact hu⟩
theorem l9.up {N:List (List Int)} {c d:Nat} (h:l9 N c) (hd:c<=d):l9 N d:=⟨ot h.len hd,h.mem⟩
theorem aif {A Co:List (List Int)} {i:Nat} {a:List Int} (h:A[i]?=some a):nQ (A.take (i+1)) Co=(Co.map λb=>gE a b).foldl th (nQ (A.take i) Co):=by
 unfold nQ
 rw [kf,h,pF,List.flatMap_append,List.foldl_append,qR,List.flatMap_nil,x6]
 rfl
theorem ajw {Co:List (List Int)} {a b:List Int} {j:Nat} {N:List (List Int)} (h:Co[j]?=some b):((Co.take (j+1)).map λb=>gE a b).foldl th N=th (((Co.take j).map λb=>gE a b).foldl th N) (gE a b):=by
 rw [kf,h,pF,qm,List.foldl_append]
 rfl
def Fu (C:List (List (List Int))) (ops:List Int) (k:Nat):List (List Int):=(ops.take k).foldl (λall o=>nQ all (C.getD o.toNat [])) [[]]
theorem aih {C:List (List (List Int))} {ops:List Int} {k:Nat} {o:Int} {Co:List (List Int)} (h:ops[k]?=some o) (hc:C[o.toNat]?=some Co):Fu C ops (k+1)=nQ (Fu C ops k) Co:=by
 unfold Fu
 rw [kf,h,pF,List.foldl_append,nN,G9,List.getD_eq_getElem?_getD,hc]
 rfl
theorem ajx (C:List (List (List Int))) (ops:List Int) {k:Nat} (h:ops.length<=k):lW (Fu C ops k)=pI C ops:=by
 unfold Fu pI
 rw [iL h]
structure IH (C:List (List (List Int))) (ops:List Int) (M:List (List Int)):Prop where
 azr:ops.length<=3
 mem:∀o∈ops,0<=o/\o < C.length
 gl:∀c∈C,c.length<=400
 len:∀c∈C,∀l∈c,l.length<=4
 eq:pI C ops=M
 ne:0 < M.length
structure apZ where
 n:Net
 s:dW
 ops:List Int
 M:List (List Int)
@[reducible] noncomputable def MgS:o6 where
 α:=apZ
 args x:=[.ptr 0 0,.sl 1 bC (λ_=>x.ops)]
 io x:=Ft x.n x.s 0++[.dead]
 pre x:=IH x.s.eT x.ops x.M
 β:=Unit
 post _ _:=True
 mv:=[4]
 res _ _:=.own 4
 l7 x _:=Ft x.n x.s 0++[.dyn 35 1 eB (λ_=>x.M)]
noncomputable def ap0 (n m:Nat):Ctx:=dM n m [(271,Tryz.f271),(272,Tryz.f272)] [(270,SL)] [271,272] [] [] [36] [35]
theorem al6 (n m:Nat):CB PP (ap0 n m):=dP n m ⟨fo Tryz.func271,fo Tryz.func272,trivial⟩ ⟨aak,trivial⟩
noncomputable def cMg (n m:Nat):Ctx:=dM n m [(271,Tryz.f271),(272,Tryz.f272)] [(270,SL)] [271,272] [] [17] [36] [35]
theorem Mz (n m:Nat):CB PP (cMg n m):=dP n m ⟨fo Tryz.func271,fo Tryz.func272,trivial⟩ ⟨aak,trivial⟩
theorem an5:nh PP 256 MgS:=by
 refine sA (Mz 1 0) (fo Tryz.func256) (λa y=>rfl) (λa=>⟨rfl,rfl⟩) (by show ([4]:List Nat).Nodup;decide) ?_
 rintro ⟨n,⟨LL,C,FF⟩,ops,M⟩ hx
 obtain ⟨jw,fi,acS,hlen,heq,bO⟩:IH C ops M:=hx
 obtain ⟨Af,zb⟩:∃Af:Nat->List (List Int),∀k,Af k=Fu C ops k:=⟨_,λ_=>rfl⟩
 have an6:∀o∈ops,0<=o/\o.toNat < C.length:=λo ho=>by have:=fi o ho;omega
 have AZ:[[]]=Af 0:=by rw [zb];rfl
 have ap1:l9 (Af 0) (400^0):=by rw [<-AZ];exact ⟨fb _,λy hy=>by simp at hy;subst hy;exact cg _⟩
 have acT:∀k,k<=ops.length->400^k<=64000000:=λk hk=>ot (KM (by omega) (ot hk jw)) (by decide)
 refine ⟨?_⟩
 cbv
 refine ⟨[[]],⟨by exact bp,rfl⟩,?_⟩
 cbv
 refine Sat.cU (Mz 1 0) 7 5 [(.t 5,6)] (λk:Nat=>[(5,.own 6),(16,.sl 1 bC (λ_=>ops)),(17,.i .i64 (λ_=>(ops.length:Int))),(18,.i .i64 (λ_=>(k:Int)))]) (λk=>[(6,.dyn 35 1 eB (λ_=>Af k))]) (λk=>k<=ops.length/\l9 (Af k) (400^k)) (λk=>ops.length - k) 0 (by exact aM) (by have fq:=AZ;exact a8) ⟨cg _,ap1⟩ ?_
 intro k hk
 obtain ⟨hk,M6⟩:k<=ops.length/\l9 (Af k) (400^k):=hk
 have gR:=n0 k
 have ie:=cX (i:=k) (by omega)
 obtain ⟨A,hA⟩:∃A,Af k=A:=⟨_,rfl⟩
 rw [hA] at M6
 have nU:=M6.len
 have hpk:=acT k hk
 cbv
 refine ⟨λh=>?_,λh=>?_⟩
 rotate_left
 ·have cz:ops.length<=k:=aL
  have hM:lW A=M:=by rw [<-hA,zb,ajx C ops cz,heq]
  have hAM:A.length=M.length:=by rw [<-hM];exact (wK A).length_eq.symm
  have ej:0 < A.length/\A.length < 4611686018427387904/\∀l∈A,l.length<=1000000:=⟨by omega,by omega,λl hl=>by have:=M6.mem l hl;omega⟩
  cbv
  refine fh.uT akN (λa y=>trivial) A [6] rfl (by exact bp) (by have fq:=hA;exact a8) ⟨ej⟩ λ_ _=>?_
  cbv
  refine ⟨(),[],[(0,4)],?_,by have fq:=hM;exact a8,⟨trivial⟩⟩
  cbv
  exact ⟨by exact bW,trivial⟩
 have cT:k < ops.length:=aL
 refine (bK cT).elim λo ho=>?_
 obtain ⟨Tl,I6⟩:=an6 o (cf ho)
 refine (bK (l:=C) (i:=o.toNat) I6).elim λCo N2=>?_
 have Uj:=acS Co (cf N2)
 have hCm:=hlen Co (cf N2)
 have C7:0<=o/\o.toNat < C.length:=⟨Tl,I6⟩
 have bX:ops.length - (k+1) < ops.length - k:=by omega
 have Uk:nQ A Co=Af (k+1):=by rw [zb,aih ho N2,<-zb,hA]
 obtain ⟨Sf,sC⟩:∃Sf:Nat->List (List Int),∀i,Sf i=nQ (A.take i) Co:=⟨_,λ_=>rfl⟩
 have N3:[]=Sf 0:=by rw [sC];rfl
 have ap2:l9 (Sf 0) (0*400):=by rw [<-N3];exact ⟨cg _,λy hy=>by cases hy⟩
 have Bb:∀i,A.length<=i->Sf i=Af (k+1):=λi hi=>by rw [sC,iL hi,Uk]
 have Ul:(((Af k).length:Nat):Int)=A.length:=by rw [hA]
 clear h
 cbv
 refine ⟨o,⟨gR,ho⟩,?_⟩
 cbv
 refine Sat.Cw 8 35 1 Lq mT rfl ?_
 cbv
 refine Sat.cU (Mz 1 0) 8 8 [(.t 8,7)] (λi:Nat=>[(8,.own 7),(16,.sl 1 bC (λ_=>ops)),(17,.i .i64 (λ_=>(ops.length:Int))),(18,.i .i64 (λ_=>(k:Int))),(22,.own 6),(23,.i .i64 (λ_=>(A.length:Int))),(24,.i .i64 (λ_=>(i:Int)))]) (λi=>[(7,.dyn 35 1 eB (λ_=>Sf i))]) (λi=>i<=A.length/\l9 (Sf i) (i*400)) (λi=>A.length - i) 0 (by have bD:=Ul;exact a8) (by have fq:=N3;have rD:=hA;exact a8) ⟨cg _,ap2⟩ ?_
 intro i hi
 obtain ⟨hi,acU⟩:i<=A.length/\l9 (Sf i) (i*400):=hi
 have cZ:=n0 i
 have ei:=cX (i:=i) (by omega)
 cbv
 refine ⟨λh=>?_,λh=>?_⟩
 rotate_left
 ·have cz:A.length<=i:=aL
  have Jz:=Bb i cz
  have SN:l9 (Af (k+1)) (400^(k+1)):=by rw [<-Jz];exact acU.up (by rw [Nat.pow_succ];exact wM _ (ot hi nU))
  have gx:(k+1<=ops.length/\l9 (Af (k+1)) (400^(k+1)))/\ops.length - (k+1) < ops.length - k:=⟨⟨cT,SN⟩,bX⟩
  cbv
  refine Sat.kill 6 ?_
  refine Sat.jN (al6 1 0) ?_
  cbv
  exact ⟨k+1,by have bD:=ie;exact a8,by have fq:=Jz;exact a8,⟨gx⟩⟩
 have bQ:i < A.length:=aL
 refine (bK bQ).elim λa ha=>?_
 have ham:a.length<=4:=M6.mem a (cf ha)
 have yV:0<=(i:Int)/\(i:Int).toNat < (Af k).length:=⟨cZ,by rw [hA];exact bQ⟩
 have tC:(Af k)[(i:Int).toNat]?=some a:=by rw [hA];exact ha
 have hmi:A.length - (i+1) < A.length - i:=by omega
 have Ga:i*400<=64000000:=by
  have h1:=acT (k+1) cT
  have h2:=wM 400 (ot (Nat.le_of_lt bQ) nU)
  rw [<-Nat.pow_succ] at h2
  omega
 obtain ⟨Rf,oO⟩:∃Rf:Nat->List (List Int),∀j,Rf j=((Co.take j).map λb=>gE a b).foldl th (Sf i):=⟨_,λ_=>rfl⟩
 have Gb:Sf i=Rf 0:=by rw [oO];rfl
 have ap3:l9 (Rf 0) (i*400+0):=by rw [<-Gb];exact acU
 have Ds:∀j,Co.length<=j->Rf j=Sf (i+1):=λj hj=>by rw [oO,iL hj,sC (i+1),aif ha,<-sC]
 have hRs:∀j b,Co[j]?=some b->Rf (j+1)=th (Rf j) (gE a b):=λj b hb=>by rw [oO,ajw hb,<-oO]
 clear h
 cbv
 refine ⟨⟨yV⟩,a,⟨tC,rfl⟩,?_⟩
 cbv
 refine ⟨⟨C7⟩,Co,⟨N2,rfl⟩,?_⟩
 cbv
 refine Sat.cU (Mz 1 0) 8 8 [(.t 8,7)] (λj:Nat=>[(8,.own 7),(10,.sl 1 bC (λ_=>a)),(16,.sl 1 bC (λ_=>ops)),(17,.i .i64 (λ_=>(ops.length:Int))),(18,.i .i64 (λ_=>(k:Int))),(22,.own 6),(23,.i .i64 (λ_=>(A.length:Int))),(24,.i .i64 (λ_=>(i:Int))),(34,.sl 1 eB (λ_=>Co)),(35,.i .i64 (λ_=>(Co.length:Int))),(36,.i .i64 (λ_=>(j:Int)))]) (λj=>[(7,.dyn 35 1 eB (λ_=>Rf j))]) (λj=>j<=Co.length/\l9 (Rf j) (i*400+j)) (λj=>Co.length - j) 0 (by exact aM) (by have fq:=Gb;exact a8) ⟨cg _,ap3⟩ ?_
 intro j hj
 obtain ⟨hj,Fv⟩:j<=Co.length/\l9 (Rf j) (i*400+j):=hj
 have gV:=n0 j
 have jm:=cX (i:=j) (by omega)
 cbv
 refine ⟨λh=>?_,λh=>?_⟩
 rotate_left
 ·have cz:Co.length<=j:=aL
  have Jz:=Ds j cz
  have SN:l9 (Sf (i+1)) ((i+1)*400):=by rw [<-Jz];exact Fv.up (by omega)
  have gx:(i+1<=A.length/\l9 (Sf (i+1)) ((i+1)*400))/\A.length - (i+1) < A.length - i:=⟨⟨bQ,SN⟩,hmi⟩
  cbv
  exact ⟨i+1,by have bD:=ei;exact a8,by have fq:=Jz;exact a8,⟨gx⟩⟩
 have dG:j < Co.length:=aL
 refine (bK dG).elim λb hb=>?_
 have oN:b.length<=4:=hCm b (cf hb)
 have hpu:a.length<=100000/\b.length<=100000:=by omega
 obtain ⟨u,hu⟩:∃u,gE a b=u:=⟨_,rfl⟩
 have Um:Rf (j+1)=th (Rf j) u:=by rw [hRs j b hb,hu]
 obtain ⟨N,hN⟩:∃N,Rf j=N:=⟨_,rfl⟩
 rw [hN] at Fv Um
 have xD:Co.length - (j+1) < Co.length - j:=by omega
 have SO:u.length<=4->(ia N u=Rf (j+1)/\l9 (Rf (j+1)) (i*400+(j+1))):=λh4=>by
  have e:ia N u=Rf (j+1):=by rw [Um,th,if_pos h4]
  exact ⟨e,by rw [<-e];exact Fv.next h4⟩
 have dx:¬u.length<=4->(N=Rf (j+1)/\l9 (Rf (j+1)) (i*400+(j+1))):=λh4=>by
  have e:N=Rf (j+1):=by rw [Um,th,if_neg h4]
  exact ⟨e,by rw [<-e];exact Fv.up (by omega)⟩
 have hNl:=Fv.len
 have hNm:=Fv.mem
 clear h
 cbv
 refine ⟨b,⟨gV,hb⟩,?_⟩
 cbv
 refine ⟨⟨a,b⟩,⟨by exact bp,hpu⟩,?_⟩
 cbv
 refine ⟨λh=>?_,λh=>?_⟩
 ·have h4:u.length<=4:=by have h':(gE a b).length<=4:=aL;rw [hu] at h';exact h'
  obtain ⟨e1,e2⟩:=SO h4
  have ej:IG ⟨some N,u⟩:=⟨by show u.length<=1000000;omega,by show N.length<=1000000000;omega,λy hy=>by have:=hNm y hy;omega⟩
  have gx:(j+1<=Co.length/\l9 (Rf (j+1)) (i*400+(j+1)))/\Co.length - (j+1) < Co.length - j:=⟨⟨dG,e2⟩,xD⟩
  cbv
  refine fh.io an4 ⟨some N,u⟩ [7] rfl (by have jM:=hu;exact cd) (by have fq:=hN;exact a8) ⟨ej⟩ λ_ _=>?_
  cbv
  exact ⟨j+1,by have bD:=jm;exact a8,by have fq:=e1;exact a8,⟨gx⟩⟩
 ·have h4:¬u.length<=4:=by have h':4 < (gE a b).length:=aL;rw [hu] at h';omega
  obtain ⟨e1,e2⟩:=dx h4
  have gx:(j+1<=Co.length/\l9 (Rf (j+1)) (i*400+(j+1)))/\Co.length - (j+1) < Co.length - j:=⟨⟨dG,e2⟩,xD⟩
  have e3:=hN.trans e1
  cbv
  exact ⟨j+1,by have bD:=jm;exact a8,by have fq:=e3;exact a8,⟨gx⟩⟩
end Go.Proofs.Pk
