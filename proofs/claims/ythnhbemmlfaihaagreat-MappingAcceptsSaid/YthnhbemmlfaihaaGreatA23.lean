import Derived.Test.YthnhbemmlfaihaaGreatA13
import Derived.Test.YthnhbemmlfaihaaGreatA14
import Derived.Test.YthnhbemmlfaihaaGreatA16
import Derived.Test.YthnhbemmlfaihaaGreatA19
import Derived.Test.YthnhbemmlfaihaaGreatA22
set_option linter.unusedVariables false
set_option linter.unusedSimpArgs false
set_option maxRecDepth 10000
set_option maxHeartbeats 64000000
namespace Go.Proofs.Pk
open Go Go.Vc
def qO (n:List (List Int)) (u:List Int):List (List Int):=if u.length<=4 then kY n u else n
structure kL (N:List (List Int)) (c:Nat):Prop where
 len:N.length<=c
 mem:∀y∈N,y.length<=4
theorem TZ (N:List (List Int)) (u:List Int):(kY N u).length<=N.length+1:=by
 unfold kY
 split
 ·omega
 ·rw [gn]
  have:=Dy (λy=>!dA u y) N
  simp only [y5];omega
theorem adR {N:List (List Int)} {u y:List Int} (h:y∈kY N u):y∈N\/y=u:=by
 unfold kY at h
 split at h
 ·exact .inl h
 ·rcases eF.1 h with h|h
  ·exact .inl (lx.1 h).1
  ·exact .inr (by simpa using h)
theorem kL.next {N:List (List Int)} {c:Nat} (h:kL N c) {u:List Int} (hu:u.length<=4):kL (kY N u) (c+1) :=
 ⟨by have:=TZ N u;have:=h.len;omega,λy hy=>by rcases adR hy with hy|rfl;exact h.mem y hy;exact hu⟩
theorem kL.up {N:List (List Int)} {c d:Nat} (h:kL N c) (hd:c<=d):kL N d:=⟨na h.len hd,h.mem⟩
theorem acC {A Co:List (List Int)} {i:Nat} {a:List Int} (h:A[i]?=some a):p8 (A.take (i+1)) Co=(Co.map λb=>jR a b).foldl qO (p8 (A.take i) Co):=by
 unfold p8
 rw [iT,h,mW,List.flatMap_append,List.foldl_append,o6,List.flatMap_nil,yU]
 rfl
theorem adS {Co:List (List Int)} {a b:List Int} {j:Nat} {N:List (List Int)} (h:Co[j]?=some b):((Co.take (j+1)).map λb=>jR a b).foldl qO N=qO (((Co.take j).map λb=>jR a b).foldl qO N) (jR a b):=by
 rw [iT,h,mW,vC,List.foldl_append]
 rfl
def Cp (C:List (List (List Int))) (ops:List Int) (k:Nat):List (List Int):=(ops.take k).foldl (λall o=>p8 all (C.getD o.toNat [])) [[]]
theorem acD {C:List (List (List Int))} {ops:List Int} {k:Nat} {o:Int} {Co:List (List Int)} (h:ops[k]?=some o) (hc:C[o.toNat]?=some Co):Cp C ops (k+1)=p8 (Cp C ops k) Co:=by
 unfold Cp
 rw [iT,h,mW,List.foldl_append,lu,DJ,List.getD_eq_getElem?_getD,hc]
 rfl
theorem adT (C:List (List (List Int))) (ops:List Int) {k:Nat} (h:ops.length<=k):n7 (Cp C ops k)=nP C ops:=by
 unfold Cp nP
 rw [iM h]
structure Fi (C:List (List (List Int))) (ops:List Int) (M:List (List Int)):Prop where
 ark:ops.length<=3
 mem:∀o∈ops,0<=o/\o < C.length
 gY:∀c∈C,c.length<=400
 len:∀c∈C,∀l∈c,l.length<=4
 eq:nP C ops=M
 ne:0 < M.length
structure aiV where
 n:Net
 s:dW
 ops:List Int
 M:List (List Int)
@[reducible] noncomputable def MgS:nU where
 α:=aiV
 args x:=[.ptr 0 0,.sl 1 bJ (λ_=>x.ops)]
 io x:=Cn x.n x.s 0++[.dead]
 pre x:=Fi x.s.gv x.ops x.M
 β:=Unit
 post _ _:=True
 mv:=[4]
 res _ _:=.own 4
 ld x _:=Cn x.n x.s 0++[.dyn 35 1 fT (λ_=>x.M)]
noncomputable def aiW (n m:Nat):Ctx:=cW n m [(271,Tryz.f271),(272,Tryz.f272)] [(270,Og)] [271,272] [] [] [36] [35]
theorem afX (n m:Nat):CB PP (aiW n m):=cZ n m ⟨fo Tryz.func271,fo Tryz.func272,trivial⟩ ⟨Vw,trivial⟩
noncomputable def cMg (n m:Nat):Ctx:=cW n m [(271,Tryz.f271),(272,Tryz.f272)] [(270,Og)] [271,272] [] [17] [36] [35]
theorem IV (n m:Nat):CB PP (cMg n m):=cZ n m ⟨fo Tryz.func271,fo Tryz.func272,trivial⟩ ⟨Vw,trivial⟩
theorem ahu:l5 PP 256 MgS:=by
 refine qZ (IV 1 0) (fo Tryz.func256) (λa y=>rfl) (λa=>⟨rfl,rfl⟩) (by show ([4]:List Nat).Nodup;decide) ?_
 rintro ⟨n,⟨LL,C,FF⟩,ops,M⟩ hx
 obtain ⟨z6,fP,aiX,hlen,heq,bR⟩:Fi C ops M:=hx
 obtain ⟨Af,wG⟩:∃Af:Nat->List (List Int),∀k,Af k=Cp C ops k:=⟨_,λ_=>rfl⟩
 have ahv:∀o∈ops,0<=o/\o.toNat < C.length:=λo ho=>by have:=fP o ho;omega
 have yd:[[]]=Af 0:=by rw [wG];rfl
 have aiY:kL (Af 0) (400^0):=by rw [<-yd];exact ⟨fN _,λy hy=>by simp at hy;subst hy;exact cI _⟩
 have XF:∀k,k<=ops.length->400^k<=64000000:=λk hk=>na (Lm (by omega) (na hk z6)) (by decide)
 refine ⟨?_⟩
 cbv
 refine ⟨[[]],⟨by exact a8,rfl⟩,?_⟩
 cbv
 refine Sat.dP (IV 1 0) 7 5 [(.t 5,6)] (λk:Nat=>[(5,.own 6),(16,.sl 1 bJ (λ_=>ops)),(17,.i .i64 (λ_=>(ops.length:Int))),(18,.i .i64 (λ_=>(k:Int)))]) (λk=>[(6,.dyn 35 1 fT (λ_=>Af k))]) (λk=>k<=ops.length/\kL (Af k) (400^k)) (λk=>ops.length - k) 0 (by exact aW) (by have eH:=yd;exact bq) ⟨cI _,aiY⟩ ?_
 intro k hk
 obtain ⟨hk,Jo⟩:k<=ops.length/\kL (Af k) (400^k):=hk
 have sq:=n0 k
 have kJ:=eh (i:=k) (by omega)
 obtain ⟨A,hA⟩:∃A,Af k=A:=⟨_,rfl⟩
 rw [hA] at Jo
 have oR:=Jo.len
 have hpk:=XF k hk
 cbv
 refine ⟨λh=>?_,λh=>?_⟩
 rotate_left
 ·have bV:ops.length<=k:=aG
  have hM:n7 A=M:=by rw [<-hA,wG,adT C ops bV,heq]
  have hAM:A.length=M.length:=by rw [<-hM];exact (wX A).length_eq.symm
  have dR:0 < A.length/\A.length < 4611686018427387904/\∀l∈A,l.length<=1000000:=⟨by omega,by omega,λl hl=>by have:=Jo.mem l hl;omega⟩
  cbv
  refine iW.tP aeZ (λa y=>trivial) A [6] rfl (by exact a8) (by have eH:=hA;exact bq) ⟨dR⟩ λ_ _=>?_
  cbv
  refine ⟨(),[],[(0,4)],?_,by have eH:=hM;exact bq,⟨trivial⟩⟩
  cbv
  exact ⟨by exact e9,trivial⟩
 have dO:k < ops.length:=aG
 refine (cg dO).elim λo ho=>?_
 obtain ⟨ho0,FC⟩:=ahv o (cM ho)
 refine (cg (l:=C) (i:=o.toNat) FC).elim λCo J9=>?_
 have ZH:=aiX Co (cM J9)
 have hCm:=hlen Co (cM J9)
 have Aj:0<=o/\o.toNat < C.length:=⟨ho0,FC⟩
 have cf:ops.length - (k+1) < ops.length - k:=by omega
 have PM:p8 A Co=Af (k+1):=by rw [wG,acD ho J9,<-wG,hA]
 obtain ⟨Sf,qi⟩:∃Sf:Nat->List (List Int),∀i,Sf i=p8 (A.take i) Co:=⟨_,λ_=>rfl⟩
 have Ka:[]=Sf 0:=by rw [qi];rfl
 have aiZ:kL (Sf 0) (0*400):=by rw [<-Ka];exact ⟨cI _,λy hy=>by cases hy⟩
 have yk:∀i,A.length<=i->Sf i=Af (k+1):=λi hi=>by rw [qi,iM hi,PM]
 have hAl:(((Af k).length:Nat):Int)=A.length:=by rw [hA]
 clear h
 cbv
 refine ⟨o,⟨sq,ho⟩,?_⟩
 cbv
 refine Sat.zF 8 35 1 MJ qJ rfl ?_
 cbv
 refine Sat.dP (IV 1 0) 8 8 [(.t 8,7)] (λi:Nat=>[(8,.own 7),(16,.sl 1 bJ (λ_=>ops)),(17,.i .i64 (λ_=>(ops.length:Int))),(18,.i .i64 (λ_=>(k:Int))),(22,.own 6),(23,.i .i64 (λ_=>(A.length:Int))),(24,.i .i64 (λ_=>(i:Int)))]) (λi=>[(7,.dyn 35 1 fT (λ_=>Sf i))]) (λi=>i<=A.length/\kL (Sf i) (i*400)) (λi=>A.length - i) 0 (by have bK:=hAl;exact bq) (by have eH:=Ka;have pz:=hA;exact bq) ⟨cI _,aiZ⟩ ?_
 intro i hi
 obtain ⟨hi,XG⟩:i<=A.length/\kL (Sf i) (i*400):=hi
 have dv:=n0 i
 have eW:=eh (i:=i) (by omega)
 cbv
 refine ⟨λh=>?_,λh=>?_⟩
 rotate_left
 ·have bV:A.length<=i:=aG
  have F4:=yk i bV
  have Oi:kL (Af (k+1)) (400^(k+1)):=by rw [<-F4];exact XG.up (by rw [Nat.pow_succ];exact uf _ (na hi oR))
  have fv:(k+1<=ops.length/\kL (Af (k+1)) (400^(k+1)))/\ops.length - (k+1) < ops.length - k:=⟨⟨dO,Oi⟩,cf⟩
  cbv
  refine Sat.kill 6 ?_
  refine Sat.j8 (afX 1 0) ?_
  cbv
  exact ⟨k+1,by have bK:=kJ;exact bq,by have eH:=F4;exact bq,⟨fv⟩⟩
 have bO:i < A.length:=aG
 refine (cg bO).elim λa ha=>?_
 have ham:a.length<=4:=Jo.mem a (cM ha)
 have wv:0<=(i:Int)/\(i:Int).toNat < (Af k).length:=⟨dv,by rw [hA];exact bO⟩
 have q9:(Af k)[(i:Int).toNat]?=some a:=by rw [hA];exact ha
 have hmi:A.length - (i+1) < A.length - i:=by omega
 have CV:i*400<=64000000:=by
  have h1:=XF (k+1) dO
  have h2:=uf 400 (na (Nat.le_of_lt bO) oR)
  rw [<-Nat.pow_succ] at h2
  omega
 obtain ⟨Rf,mM⟩:∃Rf:Nat->List (List Int),∀j,Rf j=((Co.take j).map λb=>jR a b).foldl qO (Sf i):=⟨_,λ_=>rfl⟩
 have CW:Sf i=Rf 0:=by rw [mM];rfl
 have ai0:kL (Rf 0) (i*400+0):=by rw [<-CW];exact XG
 have AA:∀j,Co.length<=j->Rf j=Sf (i+1):=λj hj=>by rw [mM,iM hj,qi (i+1),acC ha,<-qi]
 have hRs:∀j b,Co[j]?=some b->Rf (j+1)=qO (Rf j) (jR a b):=λj b hb=>by rw [mM,adS hb,<-mM]
 clear h
 cbv
 refine ⟨⟨wv⟩,a,⟨q9,rfl⟩,?_⟩
 cbv
 refine ⟨⟨Aj⟩,Co,⟨J9,rfl⟩,?_⟩
 cbv
 refine Sat.dP (IV 1 0) 8 8 [(.t 8,7)] (λj:Nat=>[(8,.own 7),(10,.sl 1 bJ (λ_=>a)),(16,.sl 1 bJ (λ_=>ops)),(17,.i .i64 (λ_=>(ops.length:Int))),(18,.i .i64 (λ_=>(k:Int))),(22,.own 6),(23,.i .i64 (λ_=>(A.length:Int))),(24,.i .i64 (λ_=>(i:Int))),(34,.sl 1 fT (λ_=>Co)),(35,.i .i64 (λ_=>(Co.length:Int))),(36,.i .i64 (λ_=>(j:Int)))]) (λj=>[(7,.dyn 35 1 fT (λ_=>Rf j))]) (λj=>j<=Co.length/\kL (Rf j) (i*400+j)) (λj=>Co.length - j) 0 (by exact aW) (by have eH:=CW;exact bq) ⟨cI _,ai0⟩ ?_
 intro j hj
 obtain ⟨hj,Cq⟩:j<=Co.length/\kL (Rf j) (i*400+j):=hj
 have jg:=n0 j
 have lg:=eh (i:=j) (by omega)
 cbv
 refine ⟨λh=>?_,λh=>?_⟩
 rotate_left
 ·have bV:Co.length<=j:=aG
  have F4:=AA j bV
  have Oi:kL (Sf (i+1)) ((i+1)*400):=by rw [<-F4];exact Cq.up (by omega)
  have fv:(i+1<=A.length/\kL (Sf (i+1)) ((i+1)*400))/\A.length - (i+1) < A.length - i:=⟨⟨bO,Oi⟩,hmi⟩
  cbv
  exact ⟨i+1,by have bK:=eW;exact bq,by have eH:=F4;exact bq,⟨fv⟩⟩
 have ei:j < Co.length:=aG
 refine (cg ei).elim λb hb=>?_
 have oy:b.length<=4:=hCm b (cM hb)
 have hpu:a.length<=100000/\b.length<=100000:=by omega
 obtain ⟨u,hu⟩:∃u,jR a b=u:=⟨_,rfl⟩
 have PN:Rf (j+1)=qO (Rf j) u:=by rw [hRs j b hb,hu]
 obtain ⟨N,hN⟩:∃N,Rf j=N:=⟨_,rfl⟩
 rw [hN] at Cq PN
 have CX:Co.length - (j+1) < Co.length - j:=by omega
 have Oj:u.length<=4->(kY N u=Rf (j+1)/\kL (Rf (j+1)) (i*400+(j+1))):=λh4=>by
  have e:kY N u=Rf (j+1):=by rw [PN,qO,if_pos h4]
  exact ⟨e,by rw [<-e];exact Cq.next h4⟩
 have dC:¬u.length<=4->(N=Rf (j+1)/\kL (Rf (j+1)) (i*400+(j+1))):=λh4=>by
  have e:N=Rf (j+1):=by rw [PN,qO,if_neg h4]
  exact ⟨e,by rw [<-e];exact Cq.up (by omega)⟩
 have hNl:=Cq.len
 have hNm:=Cq.mem
 clear h
 cbv
 refine ⟨b,⟨jg,hb⟩,?_⟩
 cbv
 refine ⟨⟨a,b⟩,⟨by exact a8,hpu⟩,?_⟩
 cbv
 refine ⟨λh=>?_,λh=>?_⟩
 ·have h4:u.length<=4:=by have h':(jR a b).length<=4:=aG;rw [hu] at h';exact h'
  obtain ⟨e1,e2⟩:=Oj h4
  have dR:Fh ⟨some N,u⟩:=⟨by show u.length<=1000000;omega,by show N.length<=1000000000;omega,λy hy=>by have:=hNm y hy;omega⟩
  have fv:(j+1<=Co.length/\kL (Rf (j+1)) (i*400+(j+1)))/\Co.length - (j+1) < Co.length - j:=⟨⟨ei,e2⟩,CX⟩
  cbv
  refine iW.io aht ⟨some N,u⟩ [7] rfl (by have iJ:=hu;exact bM) (by have eH:=hN;exact bq) ⟨dR⟩ λ_ _=>?_
  cbv
  exact ⟨j+1,by have bK:=lg;exact bq,by have eH:=e1;exact bq,⟨fv⟩⟩
 ·have h4:¬u.length<=4:=by have h':4 < (jR a b).length:=aG;rw [hu] at h';omega
  obtain ⟨e1,e2⟩:=dC h4
  have fv:(j+1<=Co.length/\kL (Rf (j+1)) (i*400+(j+1)))/\Co.length - (j+1) < Co.length - j:=⟨⟨ei,e2⟩,CX⟩
  have e3:=hN.trans e1
  cbv
  exact ⟨j+1,by have bK:=lg;exact bq,by have eH:=e3;exact bq,⟨fv⟩⟩
end Go.Proofs.Pk
