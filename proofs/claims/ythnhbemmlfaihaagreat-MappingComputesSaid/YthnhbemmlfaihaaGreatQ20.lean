import Derived.Test.YthnhbemmlfaihaaGreatQ11
import Derived.Test.YthnhbemmlfaihaaGreatQ12
import Derived.Test.YthnhbemmlfaihaaGreatQ13
import Derived.Test.YthnhbemmlfaihaaGreatQ16
import Derived.Test.YthnhbemmlfaihaaGreatQ19
set_option linter.unusedVariables false
set_option linter.unusedSimpArgs false
set_option maxRecDepth 10000
set_option maxHeartbeats 64000000
namespace Go.Proofs.Pk
open Go Go.Vc
def uf (n:List (List Int)) (u:List Int):List (List Int):=if u.length<=4 then me n u else n
structure mN (N:List (List Int)) (c:Nat):Prop where
 len:N.length<=c
 mem:∀y∈N,y.length<=4
theorem aax (N:List (List Int)) (u:List Int):(me N u).length<=N.length+1:=by
 unfold me
 split
 ·omega
 ·rw [List.length_append]
  have:=FD (λy=>!dT u y) N
  simp only [xC];omega
theorem alN {N:List (List Int)} {u y:List Int} (h:y∈me N u):y∈N\/y=u:=by
 unfold me at h
 split at h
 ·exact .inl h
 ·rcases dR.1 h with h|h
  ·exact .inl (mW.1 h).1
  ·exact .inr (by simpa using h)
theorem mN.next {N:List (List Int)} {c:Nat} (h:mN N c) {u:List Int} (hu:u.length<=4):mN (me N u) (c+1) :=
 ⟨by have:=aax N u;have:=h.len;omega,λy hy=>by rcases alN hy with hy|rfl;exact h.mem y hy;exact hu⟩
theorem mN.up {N:List (List Int)} {c d:Nat} (h:mN N c) (hd:c<=d):mN N d:=⟨oR h.len hd,h.mem⟩
theorem aky {A Co:List (List Int)} {i:Nat} {a:List Int} (h:A[i]?=some a):sY (A.take (i+1)) Co=(Co.map λb=>iS a b).foldl uf (sY (A.take i) Co):=by
 unfold sY
 rw [jR,h,oQ,List.flatMap_append,List.foldl_append,qN,List.flatMap_nil,Ax]
 rfl
theorem alO {Co:List (List Int)} {a b:List Int} {j:Nat} {N:List (List Int)} (h:Co[j]?=some b):((Co.take (j+1)).map λb=>iS a b).foldl uf N=uf (((Co.take j).map λb=>iS a b).foldl uf N) (iS a b):=by
 rw [jR,h,oQ,qe,List.foldl_append]
 rfl
def G2 (C:List (List (List Int))) (ops:List Int) (k:Nat):List (List Int):=(ops.take k).foldl (λall o=>sY all (C.getD o.toNat [])) [[]]
theorem akz {C:List (List (List Int))} {ops:List Int} {k:Nat} {o:Int} {Co:List (List Int)} (h:ops[k]?=some o) (hc:C[o.toNat]?=some Co):G2 C ops (k+1)=sY (G2 C ops k) Co:=by
 unfold G2
 rw [jR,h,oQ,List.foldl_append,kW,FN,List.getD_eq_getElem?_getD,hc]
 rfl
theorem alP (C:List (List (List Int))) (ops:List Int) {k:Nat} (h:ops.length<=k):pG (G2 C ops k)=qj C ops:=by
 unfold G2 qj
 rw [iQ h]
structure Kh (C:List (List (List Int))) (ops:List Int) (M:List (List Int)):Prop where
 aCK:ops.length<=3
 mem:∀o∈ops,0<=o/\o < C.length
 e6:∀c∈C,c.length<=400
 len:∀c∈C,∀l∈c,l.length<=4
 eq:qj C ops=M
 ne:0 < M.length
structure asf where
 n:Net
 s:eT
 ops:List Int
 M:List (List Int)
@[reducible] noncomputable def MgS:pC where
 α:=asf
 args x:=[.ptr 0 0,.sl 1 bP (λ_=>x.ops)]
 io x:=GZ x.n x.s 0++[.dead]
 pre x:=Kh x.s.gG x.ops x.M
 β:=Unit
 post _ _:=True
 mv:=[4]
 res _ _:=.own 4
 mM x _:=GZ x.n x.s 0++[.dyn 35 1 e8 (λ_=>x.M)]
noncomputable def ash (n m:Nat):Ctx:=dH n m [(271,Tryz.f271),(272,Tryz.f272)] [(270,UN)] [271,272] [] [] [36] [35]
theorem aod (n m:Nat):CB PP (ash n m):=dK n m ⟨fo Tryz.func271,fo Tryz.func272,trivial⟩ ⟨aco,trivial⟩
noncomputable def cMg (n m:Nat):Ctx:=dH n m [(271,Tryz.f271),(272,Tryz.f272)] [(270,UN)] [271,272] [] [17] [36] [35]
theorem On (n m:Nat):CB PP (cMg n m):=dK n m ⟨fo Tryz.func271,fo Tryz.func272,trivial⟩ ⟨aco,trivial⟩
theorem aqn:nT PP 256 MgS:=by
 refine tl (On 1 0) (fo Tryz.func256) (λa y=>rfl) (λa=>⟨rfl,rfl⟩) (by show ([4]:List Nat).Nodup;decide) ?_
 rintro ⟨n,⟨LL,C,FF⟩,ops,M⟩ hx
 obtain ⟨kG,gk,aeX,hlen,heq,bW⟩:Kh C ops M:=hx
 obtain ⟨Af,zQ⟩:∃Af:Nat->List (List Int),∀k,Af k=G2 C ops k:=⟨_,λ_=>rfl⟩
 have aqo:∀o∈ops,0<=o/\o.toNat < C.length:=λo ho=>by have:=gk o ho;omega
 have BX:[[]]=Af 0:=by rw [zQ];rfl
 have asi:mN (Af 0) (400^0):=by rw [<-BX];exact ⟨fq _,λy hy=>by simp at hy;subst hy;exact cg _⟩
 have aeY:∀k,k<=ops.length->400^k<=64000000:=λk hk=>oR (MH (by omega) (oR hk kG)) (by decide)
 refine ⟨?_⟩
 cbv
 refine ⟨[[]],⟨by exact bp,rfl⟩,?_⟩
 cbv
 refine Sat.dq (On 1 0) 7 5 [(.t 5,6)] (λk:Nat=>[(5,.own 6),(16,.sl 1 bP (λ_=>ops)),(17,.i .i64 (λ_=>(ops.length:Int))),(18,.i .i64 (λ_=>(k:Int)))]) (λk=>[(6,.dyn 35 1 e8 (λ_=>Af k))]) (λk=>k<=ops.length/\mN (Af k) (400^k)) (λk=>ops.length - k) 0 (by exact aM) (by have fc:=BX;exact bh) ⟨cg _,asi⟩ ?_
 intro k hk
 obtain ⟨hk,O0⟩:k<=ops.length/\mN (Af k) (400^k):=hk
 have kL:=n0 k
 have jd:=dC (i:=k) (by omega)
 obtain ⟨A,hA⟩:∃A,Af k=A:=⟨_,rfl⟩
 rw [hA] at O0
 have ri:=O0.len
 have hpk:=aeY k hk
 cbv
 refine ⟨λh=>?_,λh=>?_⟩
 rotate_left
 ·have cG:ops.length<=k:=aH
  have hM:pG A=M:=by rw [<-hA,zQ,alP C ops cG,heq]
  have hAM:A.length=M.length:=by rw [<-hM];exact (Av A).length_eq.symm
  have eD:0 < A.length/\A.length < 4611686018427387904/\∀l∈A,l.length<=1000000:=⟨by omega,by omega,λl hl=>by have:=O0.mem l hl;omega⟩
  cbv
  refine gw.vL am3 (λa y=>trivial) A [6] rfl (by exact bp) (by have fc:=hA;exact bh) ⟨eD⟩ λ_ _=>?_
  cbv
  refine ⟨(),[],[(0,4)],?_,by have fc:=hM;exact bh,⟨trivial⟩⟩
  cbv
  exact ⟨by exact cj,trivial⟩
 have dG:k < ops.length:=aH
 refine (bO dG).elim λo ho=>?_
 obtain ⟨Vw,KG⟩:=aqo o (cB ho)
 refine (bO (l:=C) (i:=o.toNat) KG).elim λCo PW=>?_
 have hCl:=aeX Co (cB PW)
 have hCm:=hlen Co (cB PW)
 have Ex:0<=o/\o.toNat < C.length:=⟨Vw,KG⟩
 have bZ:ops.length - (k+1) < ops.length - k:=by omega
 have Wg:sY A Co=Af (k+1):=by rw [zQ,akz ho PW,<-zQ,hA]
 obtain ⟨Sf,tv⟩:∃Sf:Nat->List (List Int),∀i,Sf i=sY (A.take i) Co:=⟨_,λ_=>rfl⟩
 have HJ:[]=Sf 0:=by rw [tv];rfl
 have asj:mN (Sf 0) (0*400):=by rw [<-HJ];exact ⟨cg _,λy hy=>by cases hy⟩
 have Ca:∀i,A.length<=i->Sf i=Af (k+1):=λi hi=>by rw [tv,iQ hi,Wg]
 have Wh:(((Af k).length:Nat):Int)=A.length:=by rw [hA]
 clear h
 cbv
 refine ⟨o,⟨kL,ho⟩,?_⟩
 cbv
 refine Sat.DK 8 35 1 Nl nJ rfl ?_
 cbv
 refine Sat.dq (On 1 0) 8 8 [(.t 8,7)] (λi:Nat=>[(8,.own 7),(16,.sl 1 bP (λ_=>ops)),(17,.i .i64 (λ_=>(ops.length:Int))),(18,.i .i64 (λ_=>(k:Int))),(22,.own 6),(23,.i .i64 (λ_=>(A.length:Int))),(24,.i .i64 (λ_=>(i:Int)))]) (λi=>[(7,.dyn 35 1 e8 (λ_=>Sf i))]) (λi=>i<=A.length/\mN (Sf i) (i*400)) (λi=>A.length - i) 0 (by have bH:=Wh;exact bh) (by have fc:=HJ;have sr:=hA;exact bh) ⟨cg _,asj⟩ ?_
 intro i hi
 obtain ⟨hi,aeZ⟩:i<=A.length/\mN (Sf i) (i*400):=hi
 have dV:=n0 i
 have e7:=dC (i:=i) (by omega)
 cbv
 refine ⟨λh=>?_,λh=>?_⟩
 rotate_left
 ·have cG:A.length<=i:=aH
  have K5:=Ca i cG
  have UP:mN (Af (k+1)) (400^(k+1)):=by rw [<-K5];exact aeZ.up (by rw [Nat.pow_succ];exact xD _ (oR hi ri))
  have gy:(k+1<=ops.length/\mN (Af (k+1)) (400^(k+1)))/\ops.length - (k+1) < ops.length - k:=⟨⟨dG,UP⟩,bZ⟩
  cbv
  refine Sat.kill 6 ?_
  refine Sat.j2 (aod 1 0) ?_
  cbv
  exact ⟨k+1,by have bH:=jd;exact bh,by have fc:=K5;exact bh,⟨gy⟩⟩
 have bM:i < A.length:=aH
 refine (bO bM).elim λa ha=>?_
 have ham:a.length<=4:=O0.mem a (cB ha)
 have zH:0<=(i:Int)/\(i:Int).toNat < (Af k).length:=⟨dV,by rw [hA];exact bM⟩
 have uG:(Af k)[(i:Int).toNat]?=some a:=by rw [hA];exact ha
 have hmi:A.length - (i+1) < A.length - i:=by omega
 have Cb:i*400<=64000000:=by
  have h1:=aeY (k+1) dG
  have h2:=xD 400 (oR (Nat.le_of_lt bM) ri)
  rw [<-Nat.pow_succ] at h2
  omega
 obtain ⟨Rf,pa⟩:∃Rf:Nat->List (List Int),∀j,Rf j=((Co.take j).map λb=>iS a b).foldl uf (Sf i):=⟨_,λ_=>rfl⟩
 have HK:Sf i=Rf 0:=by rw [pa];rfl
 have asl:mN (Rf 0) (i*400+0):=by rw [<-HK];exact aeZ
 have EM:∀j,Co.length<=j->Rf j=Sf (i+1):=λj hj=>by rw [pa,iQ hj,tv (i+1),aky ha,<-tv]
 have hRs:∀j b,Co[j]?=some b->Rf (j+1)=uf (Rf j) (iS a b):=λj b hb=>by rw [pa,alO hb,<-pa]
 clear h
 cbv
 refine ⟨⟨zH⟩,a,⟨uG,rfl⟩,?_⟩
 cbv
 refine ⟨⟨Ex⟩,Co,⟨PW,rfl⟩,?_⟩
 cbv
 refine Sat.dq (On 1 0) 8 8 [(.t 8,7)] (λj:Nat=>[(8,.own 7),(10,.sl 1 bP (λ_=>a)),(16,.sl 1 bP (λ_=>ops)),(17,.i .i64 (λ_=>(ops.length:Int))),(18,.i .i64 (λ_=>(k:Int))),(22,.own 6),(23,.i .i64 (λ_=>(A.length:Int))),(24,.i .i64 (λ_=>(i:Int))),(34,.sl 1 e8 (λ_=>Co)),(35,.i .i64 (λ_=>(Co.length:Int))),(36,.i .i64 (λ_=>(j:Int)))]) (λj=>[(7,.dyn 35 1 e8 (λ_=>Rf j))]) (λj=>j<=Co.length/\mN (Rf j) (i*400+j)) (λj=>Co.length - j) 0 (by exact aM) (by have fc:=HK;exact bh) ⟨cg _,asl⟩ ?_
 intro j hj
 obtain ⟨hj,G3⟩:j<=Co.length/\mN (Rf j) (i*400+j):=hj
 have iM:=n0 j
 have j3:=dC (i:=j) (by omega)
 cbv
 refine ⟨λh=>?_,λh=>?_⟩
 rotate_left
 ·have cG:Co.length<=j:=aH
  have K5:=EM j cG
  have UP:mN (Sf (i+1)) ((i+1)*400):=by rw [<-K5];exact G3.up (by omega)
  have gy:(i+1<=A.length/\mN (Sf (i+1)) ((i+1)*400))/\A.length - (i+1) < A.length - i:=⟨⟨bM,UP⟩,hmi⟩
  cbv
  exact ⟨i+1,by have bH:=e7;exact bh,by have fc:=K5;exact bh,⟨gy⟩⟩
 have eo:j < Co.length:=aH
 refine (bO eo).elim λb hb=>?_
 have o9:b.length<=4:=hCm b (cB hb)
 have hpu:a.length<=100000/\b.length<=100000:=by omega
 obtain ⟨u,hu⟩:∃u,iS a b=u:=⟨_,rfl⟩
 have Wi:Rf (j+1)=uf (Rf j) u:=by rw [hRs j b hb,hu]
 obtain ⟨N,hN⟩:∃N,Rf j=N:=⟨_,rfl⟩
 rw [hN] at G3 Wi
 have HL:Co.length - (j+1) < Co.length - j:=by omega
 have Ki:u.length<=4->(me N u=Rf (j+1)/\mN (Rf (j+1)) (i*400+(j+1))):=λh4=>by
  have e:me N u=Rf (j+1):=by rw [Wi,uf,if_pos h4]
  exact ⟨e,by rw [<-e];exact G3.next h4⟩
 have dg:¬u.length<=4->(N=Rf (j+1)/\mN (Rf (j+1)) (i*400+(j+1))):=λh4=>by
  have e:N=Rf (j+1):=by rw [Wi,uf,if_neg h4]
  exact ⟨e,by rw [<-e];exact G3.up (by omega)⟩
 have hNl:=G3.len
 have hNm:=G3.mem
 clear h
 cbv
 refine ⟨b,⟨iM,hb⟩,?_⟩
 cbv
 refine ⟨⟨a,b⟩,⟨by exact bp,hpu⟩,?_⟩
 cbv
 refine ⟨λh=>?_,λh=>?_⟩
 ·have h4:u.length<=4:=by have h':(iS a b).length<=4:=aH;rw [hu] at h';exact h'
  obtain ⟨e1,e2⟩:=Ki h4
  have eD:Kg ⟨some N,u⟩:=⟨by show u.length<=1000000;omega,by show N.length<=1000000000;omega,λy hy=>by have:=hNm y hy;omega⟩
  have gy:(j+1<=Co.length/\mN (Rf (j+1)) (i*400+(j+1)))/\Co.length - (j+1) < Co.length - j:=⟨⟨eo,e2⟩,HL⟩
  cbv
  refine gw.io aqm ⟨some N,u⟩ [7] rfl (by have gS:=hu;exact bX) (by have fc:=hN;exact bh) ⟨eD⟩ λ_ _=>?_
  cbv
  exact ⟨j+1,by have bH:=j3;exact bh,by have fc:=e1;exact bh,⟨gy⟩⟩
 ·have h4:¬u.length<=4:=by have h':4 < (iS a b).length:=aH;rw [hu] at h';omega
  obtain ⟨e1,e2⟩:=dg h4
  have gy:(j+1<=Co.length/\mN (Rf (j+1)) (i*400+(j+1)))/\Co.length - (j+1) < Co.length - j:=⟨⟨eo,e2⟩,HL⟩
  have e3:=hN.trans e1
  cbv
  exact ⟨j+1,by have bH:=j3;exact bh,by have fc:=e3;exact bh,⟨gy⟩⟩
end Go.Proofs.Pk
