import Derived.Test.YthnhbemmlfaihaaGreatT19
import Derived.Test.YthnhbemmlfaihaaGreatT32
import Derived.Test.YthnhbemmlfaihaaGreatT36
import Derived.Test.YthnhbemmlfaihaaGreatT37
import Derived.Test.YthnhbemmlfaihaaGreatT39
set_option linter.unusedVariables false
set_option linter.unusedSimpArgs false
set_option maxRecDepth 10000
set_option maxHeartbeats 64000000
namespace Go.Proofs.Pk
open Go Go.Vc
@[reducible] noncomputable def afG:Vc.Spec where
 α:=js
 args s:=[.agg (CH s),.agg (CH s)]
 pre s:=s.aN.length<=1000000/\s.bd.length<=1000000/\∀m∈s.bd,m.length<=1000000
 res s:=.b (λ_=>true)
noncomputable def cSs (n m:Nat):Ctx:=eB n m [] [(180,U9)]
theorem afH (n m:Nat):CB PP (cSs n m):=eD n m trivial ⟨ac3,trivial⟩
theorem aoP:cS (PP ()) 90 afG:=by
 refine dP (afH 0 0) (fo Tryz.func90) (λa=>⟨JP a,JP a,trivial⟩) (λa=>trivial) ?_
 rintro ⟨aN,bd⟩ hx
 obtain ⟨FC,hm6,Dc⟩:aN.length<=1000000/\bd.length<=1000000/\∀m∈bd,m.length<=1000000:=hx
 have hpr:(⟨aN,aN⟩:nt Int).a.length<=1000000000000/\(⟨aN,aN⟩:nt Int).b.length<=1000000000000:=⟨by show aN.length<=_;omega,by show aN.length<=_;omega⟩
 have A_:(!jv aN aN)=true->False:=λh=>by rw [sE.2 rfl] at h;cases h
 have AX:(!aV (bd.length:Int) (bd.length:Int))=true->False:=λh=>by simp [aV] at h
 refine ⟨?_⟩
 cbv
 refine ⟨⟨aN,aN⟩,⟨by exact bP,hpr⟩,?_⟩
 cbv
 refine ⟨λh=>?_,λh=>?_⟩
 ·have hF:=A_ h.out
  cases hF
 clear h
 cbv
 refine ⟨λh=>?_,λh=>?_⟩
 ·have hF:=AX h.out
  cases hF
 clear h
 cbv
 refine Sat.ca (afH 0 0) 2 5 [] (λi:Nat=>[(5,.i .i64 (λ_=>(i:Int)))]) (λi=>[]) (λi=>i<=bd.length) (λi=>bd.length - i) 0 (by exact ao) (by exact ao) (cJ _) ?_
 intro i hi
 have hi:i<=bd.length:=hi
 have h0:=n0 i
 have h1:=cd (i:=i) (by omega)
 cbv
 refine ⟨λh=>?_,λh=>?_⟩
 ·have bp:i < bd.length:=bE
  have a7:bd.length - (i+1) < bd.length - i:=by omega
  refine (bz bp).elim λm hm=>?_
  have eE:=Dc m (b_ hm)
  have zF:(⟨m,m⟩:nt Int).a.length<=1000000000000/\(⟨m,m⟩:nt Int).b.length<=1000000000000:=⟨by show m.length<=_;omega,by show m.length<=_;omega⟩
  have zt:(!jv m m)=true->False:=λh=>by rw [sE.2 rfl] at h;cases h
  cbv
  refine ⟨m,⟨h0,hm⟩,?_⟩
  cbv
  refine ⟨m,⟨h0,hm⟩,?_⟩
  cbv
  refine ⟨⟨m,m⟩,⟨by exact bP,zF⟩,?_⟩
  cbv
  refine ⟨λh=>?_,λh=>?_⟩
  ·have hF:=zt h.out
   cases hF
  clear h
  cbv
  exact ⟨i+1,by exact ao,by exact ao,⟨⟨bp,a7⟩⟩⟩
 ·cbv
  exact ⟨by exact aJ⟩
def Ld (f:OF):List SV:=[.b (λ_=>f.arb),.sl 1 bJ (λ_=>f.s.aN),.sl 1 iV (λ_=>f.s.bd),.sl 1 iU (λ_=>f.sP),.sl 2 EA (λ_=>f.dX)]
theorem Oa (f:OF):dm (Ld f):=⟨trivial,λx=>(cM x).1,λx=>(pK x).1,λx=>(tu x).1,λx=>(NI x).1,trivial⟩
structure WR (f:OF):Prop where
 aN:f.s.aN.length<=1000000
 bd:f.s.bd.length<=1000000
 QG:∀m∈f.s.bd,m.length<=1000000
 sP:f.sP.length<=1000000
 dX:f.dX=[]
@[reducible] noncomputable def afI:Vc.Spec where
 α:=OF
 args f:=[.agg (Ld f),.agg (Ld f)]
 pre f:=WR f
 res f:=.b (λ_=>true)
noncomputable def cSf (n m:Nat):Ctx:=eB n m [] [(90,afG)]
theorem Vx (n m:Nat):CB PP (cSf n m):=eD n m trivial ⟨aoP,trivial⟩
theorem aoQ:cS (PP ()) 21 afI:=by
 refine dP (Vx 0 0) (fo Tryz.func21) (λa=>⟨Oa a,Oa a,trivial⟩) (λa=>trivial) ?_
 rintro ⟨fi,⟨aN,bd⟩,sP,dX⟩ hx
 have hx:WR ⟨fi,⟨aN,bd⟩,sP,dX⟩:=hx
 have hss:(⟨aN,bd⟩:js).aN.length<=1000000/\(⟨aN,bd⟩:js).bd.length<=1000000/\∀m∈(⟨aN,bd⟩:js).bd,m.length<=1000000:=⟨hx.aN,hx.bd,hx.QG⟩
 have oE:sP.length<=1000000:=hx.sP
 have FE:dX=[]:=hx.dX
 subst FE
 have zw:(!(fi == fi))=true->False:=λh=>by simp at h
 have CN:(!aV (sP.length:Int) (sP.length:Int))=true->False:=λh=>by simp [aV] at h
 have CM:(!aV (([]:List Head).length:Int) (([]:List Head).length:Int))=true->False:=λh=>by simp [aV] at h
 refine ⟨?_⟩
 cbv
 refine ⟨λh=>?_,λh=>?_⟩
 ·have hF:=zw h.out
  cases hF
 clear h
 cbv
 refine ⟨⟨aN,bd⟩,⟨by exact bP,hss⟩,?_⟩
 cbv
 refine ⟨λh=>?_,λh=>?_⟩
 ·have hF:False:=by have h:=h.out;simp at h
  cases hF
 clear h
 cbv
 refine ⟨λh=>?_,λh=>?_⟩
 ·have hF:=CN h.out
  cases hF
 clear h
 cbv
 refine ⟨λh=>?_,λh=>?_⟩
 ·have hF:=CM h.out
  cases hF
 clear h
 cbv
 refine Sat.ca (Vx 0 0) 2 5 [] (λi:Nat=>[(5,.i .i64 (λ_=>(i:Int)))]) (λi=>[]) (λi=>i<=sP.length) (λi=>sP.length - i) 0 (by exact ao) (by exact ao) (cJ _) ?_
 intro i hi
 have hi:i<=sP.length:=hi
 have h0:=n0 i
 have h1:=cd (i:=i) (by omega)
 cbv
 refine ⟨λh=>?_,λh=>?_⟩
 ·have bp:i < sP.length:=bE
  have a7:sP.length - (i+1) < sP.length - i:=by omega
  refine (bz bp).elim λm hm=>?_
  have tQ:(!(m == m))=true->False:=λh=>by simp at h
  cbv
  refine ⟨m,⟨h0,hm⟩,?_⟩
  cbv
  refine ⟨m,⟨h0,hm⟩,?_⟩
  cbv
  refine ⟨λh=>?_,λh=>?_⟩
  ·have hF:=tQ h.out
   cases hF
  clear h
  cbv
  exact ⟨i+1,by exact ao,by exact ao,⟨⟨bp,a7⟩⟩⟩
 clear h h0 h1 hi
 cbv
 refine Sat.GM (Vx 0 0) 0 ?_
 cbv
 refine ⟨λh=>?_,λh=>?_⟩
 ·have hF:False:=by have h:=h.out;simp [aS] at h
  cases hF
 ·cbv
  exact ⟨by exact aJ⟩
structure aud where
 s:js
 afJ:List Head
 afK:List Bool
@[reducible] noncomputable def Vy:Vc.Spec where
 α:=aud
 args x:=[.agg [.sl 3 dc (λ_=>[]),.di,.di,.di],.agg (CH x.s),.sl 2 EA (λ_=>x.afJ),.sl 1 iU (λ_=>x.afK)]
 pre x:=True
 res x:=.sl 1 iU (λ_=>[])
noncomputable def cIp (n m:Nat):Ctx:=eB n m [] []
theorem afL (n m:Nat):CB PP (cIp n m):=eD n m trivial trivial
theorem ade:cS (PP ()) 62 Vy:=by
 refine dP (afL 0 0) (fo Tryz.func62) (λa=>⟨⟨(λx=>(gL x).1),trivial,trivial,trivial,trivial⟩,JP a.s,(λx=>(NI x).1),(λx=>(tu x).1),trivial⟩) (λa=>(λx=>(tu x).1)) ?_
 rintro ⟨⟨aN,bd⟩,afJ,afK⟩ hx
 clear hx
 refine ⟨?_⟩
 cbv
 refine ⟨⟨by decide⟩,?_⟩
 cbv
 refine Sat.GM (afL 0 0) 0 ?_
 cbv
 refine ⟨λh=>?_,λh=>?_⟩
 ·have hF:False:=by have h:=h.out;simp [aS] at h
  cases hF
 ·cbv
  exact ⟨by exact aJ⟩
structure ahC where
 outs:List bT
 dr:List Int
 aN:List Int
 vals:List Bool
 z:List Int
structure WS (x:ahC):Prop where
 dH:x.outs.length<=1000000
 WU:x.aN.length<=1000000
 len:x.vals.length=x.outs.length
 no:∀v∈x.vals,v=false
 z:x.z=List.replicate x.aN.length 0
@[reducible] noncomputable def Vz:Vc.Spec where
 α:=ahC
 args x:=[.agg [.di,.di,.sl 3 dc (λ_=>x.outs),.sl 1 bJ (λ_=>x.dr)],.agg [.sl 1 bJ (λ_=>x.aN),.sl 1 iV (λ_=>[])],.sl 1 iU (λ_=>x.vals),.agg [.i .i64 (λ_=>0),.i .i64 (λ_=>0)]]
 pre x:=WS x
 res x:=.agg (Ld ⟨false,⟨x.z,[]⟩,[],[]⟩)
noncomputable def cEf (n m:Nat):Ctx:=eB n m [] []
theorem Hl (n m:Nat):CB PP (cEf n m):=eD n m trivial trivial
theorem adf:cS (PP ()) 63 Vz:=by
 refine dP (Hl 0 0) (fo Tryz.func63) (λa=>⟨⟨trivial,trivial,(λx=>(gL x).1),(λx=>(cM x).1),trivial⟩,⟨(λx=>(cM x).1),(λx=>(pK x).1),trivial⟩,(λx=>(tu x).1),⟨trivial,trivial,trivial⟩,trivial⟩) (λa=>Oa _) ?_
 rintro ⟨outs,dr,aN,vals,Zr⟩ hx
 have hx:WS ⟨outs,dr,aN,vals,Zr⟩:=hx
 have L_:outs.length<=1000000:=hx.dH
 have FC:aN.length<=1000000:=hx.WU
 have mq:vals.length=outs.length:=hx.len
 have et:∀v∈vals,v=false:=hx.no
 have Ym:Zr=List.replicate aN.length 0:=hx.z
 refine ⟨?_⟩
 cbv
 refine Sat.ca (Hl 0 0) 6 11 [] (λi:Nat=>[(24,.sl 3 dc (λ_=>outs)),(25,.i .i64 (λ_=>(outs.length:Int))),(26,.i .i64 (λ_=>(i:Int)))]) (λi=>[]) (λi=>i<=outs.length) (λi=>outs.length - i) 0 (by exact ao) (by exact ao) (cJ _) ?_
 intro i hi
 have hi:i<=outs.length:=hi
 have h0:=n0 i
 have h1:=cd (i:=i) (by omega)
 cbv
 refine ⟨λh=>?_,λh=>?_⟩
 ·have bp:i < outs.length:=bE
  have a7:outs.length - (i+1) < outs.length - i:=by omega
  refine (bz bp).elim λw hw=>?_
  refine (bz (l:=vals) (i:=i) (by omega)).elim λv hv=>?_
  have Yf:=et v (b_ hv)
  cbv
  refine ⟨w,⟨h0,hw⟩,?_⟩
  cbv
  refine ⟨v,⟨h0,hv⟩,?_⟩
  cbv
  refine ⟨λh=>?_,λh=>?_⟩
  ·have hF:False:=by have h:=h.out;rw [Yf] at h;cases h
   cases hF
  clear h
  cbv
  exact ⟨i+1,by exact ao,by exact ao,⟨⟨bp,a7⟩⟩⟩
 clear h h0 h1 hi
 obtain ⟨Z,hZ⟩:∃Z:Nat->List Int,∀i,Z i=List.replicate i 0:=⟨_,λ_=>rfl⟩
 have hZ0:[]=Z 0:=by rw [hZ];rfl
 cbv
 refine Sat.iz 6 1 3 1 nN cM rfl rfl ?_
 cbv
 refine Sat.ca (Hl 0 0) 8 14 [(.c 6 1,7)] (λi:Nat=>[(56,.sl 1 bJ (λ_=>aN)),(57,.i .i64 (λ_=>(aN.length:Int))),(58,.i .i64 (λ_=>(i:Int)))]) (λi=>[(7,.dyn 3 1 bJ (λ_=>Z i))]) (λi=>i<=aN.length) (λi=>aN.length - i) 0 (by exact ao) (by have dM:=hZ0;exact bH) (cJ _) ?_
 intro j hj
 have hj:j<=aN.length:=hj
 have h0:=n0 j
 have h1:=cd (i:=j) (by omega)
 cbv
 refine ⟨λh=>?_,λh=>?_⟩
 ·have eA:j < aN.length:=bE
  have a7:aN.length - (j+1) < aN.length - j:=by omega
  have hZs:Z j++[0]=Z (j+1):=by rw [hZ,hZ,List.replicate_succ']
  have hZl:(Z j).length=j:=by rw [hZ,rK]
  have dY:((Z j).length+1)*8<=140737488355328:=by omega
  have mT:(Z j).length+1<=9223372036854775807:=by omega
  cbv
  refine ⟨some none,⟨rfl⟩,?_⟩
  cbv
  refine ⟨[0],⟨by exact bP,dY,mT⟩,?_⟩
  cbv
  exact ⟨j+1,by exact ao,by have dM:=hZs;exact bH,⟨⟨eA,a7⟩⟩⟩
 have bR:j=aN.length:=by
  have h':aS j aN.length=false:=h.out
  have h2:¬(j:Int) < aN.length:=by simpa [aS] using h'
  omega
 have hZe:Z j=Zr:=by rw [hZ,bR,Ym]
 clear h h0 h1 hj
 cbv
 refine Sat.GM (Hl 0 0) 0 ?_
 cbv
 refine ⟨λh=>?_,λh=>?_⟩
 ·have hF:False:=by have h:=h.out;simp [aS] at h
  cases hF
 clear h
 cbv
 refine Sat.GM (Hl 0 0) 0 ?_
 cbv
 refine ⟨λh=>?_,λh=>?_⟩
 ·have hF:False:=by have h:=h.out;simp [aS] at h
  cases hF
 clear h
 cbv
 refine Sat.GM (Hl 0 0) 0 ?_
 cbv
 refine ⟨λh=>?_,λh=>?_⟩
 ·have hF:False:=by have h:=h.out;simp [aS] at h
  cases hF
 clear h
 cbv
 exact ⟨by have dG:=hZe;exact dv⟩
structure ahD where
 p:bq
 aN:List Int
 z:List Int
structure WV (x:ahD):Prop where
 ky:CI x.p
 ins:x.p.ins=[]
 outs:x.p.outs=[]
 WU:x.aN.length<=1000000
 no:∀(b:Nat) (y:Block),x.p.blocks[b]?=some y->0<=y.bf->(yT x.p [] ⟨x.aN,[]⟩)[2*b]?=some false
 z:x.z=List.replicate x.aN.length 0
@[reducible] noncomputable def aeh:Vc.Spec where
 α:=ahD
 args x:=[.agg (fq x.p),.agg (CH ⟨x.aN,[]⟩),.sl 2 EA (λ_=>[]),.sl 1 iU (λ_=>[])]
 pre x:=WV x
 res x:=.agg (Ld ⟨false,⟨x.z,[]⟩,[],[]⟩)
noncomputable def cS0 (n m:Nat):Ctx:=eB n m [] [(62,Vy),(151,Vw),(95,Cf),(63,Vz)] [] [] [17]
theorem VA (n m:Nat):CB PP (cS0 n m):=eD n m trivial ⟨ade,adb,Ef,adf,trivial⟩
noncomputable def cS1 (n m:Nat):Ctx:=eB n m [] [(62,Vy),(151,Vw),(95,Cf),(63,Vz)]
theorem arE (n m:Nat):CB PP (cS1 n m):=eD n m trivial ⟨ade,adb,Ef,adf,trivial⟩
theorem anI:cS (PP ()) 67 aeh:=by
 refine dP (VA 0 0) (fo Tryz.func67) (λa=>⟨km a.p,JP _,(λx=>(NI x).1),(λx=>(tu x).1),trivial⟩) (λa=>Oa _) ?_
 rintro ⟨⟨ins,blocks,outs,ay⟩,aN,Zr⟩ hx
 have hx:WV ⟨⟨ins,blocks,outs,ay⟩,aN,Zr⟩:=hx
 have Ym:Zr=List.replicate aN.length 0:=hx.z
 have dK:ins=[]:=hx.ins
 have Bj:outs=[]:=hx.outs
 subst dK
 subst Bj
 have pq:=hx.ky
 simp only at pq
 have oA:blocks.length<=600:=pq.sh.dH
 have FC:aN.length<=1000000:=hx.WU
 have et:∀(b:Nat) (y:Block),blocks[b]?=some y->0<=y.bf->(yT ⟨[],blocks,[],ay⟩ [] ⟨aN,[]⟩)[2*b]?=some false:=hx.no
 have x9:∀x∈blocks,x.bf<=255:=λx h=>(pq.sh.formed x h).bf.2
 clear hx
 have H4:Vv ⟨⟨[],blocks,[],ay⟩,[],⟨aN,[]⟩⟩:=⟨pq,rfl⟩
 obtain ⟨E,hE⟩:∃E,yT ⟨[],blocks,[],ay⟩ [] ⟨aN,[]⟩=E:=⟨_,rfl⟩
 rw [hE] at et
 refine ⟨?_⟩
 cbv
 refine ⟨⟨⟨aN,[]⟩,[],[]⟩,⟨by exact bP,trivial⟩,?_⟩
 cbv
 refine ⟨⟨⟨[],blocks,[],ay⟩,[],⟨aN,[]⟩⟩,⟨by exact bP,H4⟩,?_⟩
 cbv
 refine Sat.Cd 12 133 3 GN gL rfl ?_
 cbv
 refine Sat.Cd 13 4 1 TO tu rfl ?_
 cbv
 refine Sat.ca (VA 0 0) 6 12 [(.t 12,4),(.t 13,5)] (λx:Nat × List bT × List Bool=>[(11,.sl 1 iU (λ_=>E)),(12,.own 4),(13,.own 5),(33,.sl 5 oe (λ_=>blocks)),(34,.i .i64 (λ_=>(blocks.length:Int))),(35,.i .i64 (λ_=>(x.1:Int)))])
  (λx=>[(4,.dyn 133 3 dc (λ_=>x.2.1)),(5,.dyn 4 1 iU (λ_=>x.2.2))]) (λx=>x.1<=blocks.length/\x.2.2.length=x.2.1.length/\x.2.1.length<=x.1/\∀v∈x.2.2,v=false) (λx=>blocks.length - x.1) (0,[],[]) (by have dG:=hE;exact bH) (by exact ao) ⟨cJ _,rfl,cP _,by simp⟩ ?_
 rintro ⟨i,O,V⟩ ⟨hi,IA,hOl,Mg⟩
 have hi:i<=blocks.length:=hi
 have IA:V.length=O.length:=IA
 have hOl:O.length<=i:=hOl
 have Mg:∀v∈V,v=false:=Mg
 have h0:=n0 i
 have h1:=cd (i:=i) (by omega)
 cbv
 refine ⟨λh=>?_,λh=>?_⟩
 ·have bp:i < blocks.length:=bE
  have a7:blocks.length - (i+1) < blocks.length - i:=by omega
  refine (bz bp).elim λx hx=>?_
  have HM:(i:Int)<=1000000:=by omega
  have XV:([]:List bT).length<=1000000:=by simp
  have dY:(O.length+1)*24<=140737488355328:=by omega
  have mT:O.length+1<=9223372036854775807:=by omega
  have hsy:(V.length+1)*1<=140737488355328:=by omega
  have aue:V.length+1<=9223372036854775807:=by omega
  have gx:0<=((([]:List bT).length:Nat):Int)+2*(i:Int)/\0<=x.bf->E[((((([]:List bT).length:Nat):Int)+2*(i:Int))).toNat]?=some false:=λh=>by
   have:=et i x hx h.2
   rw [show ((((([]:List bT).length:Nat):Int)+2*(i:Int))).toNat=2*i by simp;omega]
   exact this
  have ahE:0<=((([]:List bT).length:Nat):Int)+2*(i:Int):=by simp;omega
  obtain ⟨wi,wz⟩:∃w,IntKind.i64.wrap (x.bf.tdiv 8)=w:=⟨_,rfl⟩
  obtain ⟨wb,QQ⟩:∃w,x.bf.tmod 8=w:=⟨_,rfl⟩
  have bw:i+1<=blocks.length/\(V++[false]).length=(O++[(⟨1,wi,wb⟩:bT)]).length/\(O++[(⟨1,wi,wb⟩:bT)]).length<=i+1/\∀v∈V++[false],v=false:=⟨bp,by simp [IA],by simp;omega,λv hv=>by
   rcases List.mem_append.1 hv with h|h
   ·exact Mg v h
   ·simpa using h⟩
  have hold:i+1<=blocks.length/\V.length=O.length/\O.length<=i+1/\∀v∈V,v=false:=⟨bp,IA,by omega,Mg⟩
  cbv
  refine ⟨x,⟨h0,hx⟩,?_⟩
  cbv
  refine ⟨λh=>?_,λh=>?_⟩
  ·have hr:0<=x.bf:=bE
   have hE2:=gx ⟨ahE,hr⟩
   cbv
   refine ⟨⟨by decide⟩,⟨by decide⟩,?_⟩
   cbv
   refine ⟨[⟨1,wi,wb⟩],⟨by exact bP,dY,mT⟩,?_⟩
   cbv
   refine ⟨⟨⟨[],blocks,[],ay⟩,(i:Int)⟩,⟨by exact bP,XV,h0,HM⟩,?_⟩
   cbv
   refine ⟨false,⟨ahE,hE2⟩,?_⟩
   cbv
   refine ⟨[false],⟨by exact bP,hsy,aue⟩,?_⟩
   cbv
   exact ⟨(i+1,O++[⟨1,wi,wb⟩],V++[false]),by exact ao,by exact ao,⟨⟨bw,a7⟩⟩⟩
  ·cbv
   exact ⟨(i+1,O,V),by exact ao,by exact ao,⟨⟨hold,a7⟩⟩⟩
 have hef:∀dr,WS ⟨O,dr,aN,V,Zr⟩:=λdr=>⟨by show O.length<=1000000;omega,FC,IA,Mg,Ym⟩
 obtain ⟨DZ,hDZ⟩:∃D,List.replicate ((O.length:Int)).toNat (0:Int)=D:=⟨_,rfl⟩
 have eE:0<=(O.length:Int)/\8*(O.length:Int)<=281474976710656/\(O.length:Int)<=9223372036854775807:=by omega
 clear h h0 h1
 cbv
 refine Sat.GM (VA 0 0) 0 ?_
 cbv
 refine ⟨λh=>?_,λh=>?_⟩
 ·have hF:False:=by have h:=h.out;simp [aS] at h
  cases hF
 clear h
 cbv
 refine ⟨⟨eE.1,jI _,eE.2.1,eE.2.2⟩,?_⟩
 cbv
 refine Sat.freeze 4 rfl rfl ?_
 cbv
 refine Sat.freeze 5 rfl rfl ?_
 cbv
 refine Sat.freeze 6 rfl rfl ?_
 refine Sat.tZ (arE 0 0) ?_
 cbv
 refine ⟨⟨O,DZ,aN,V,Zr⟩,⟨by have dG:=hDZ;exact cN,hef DZ⟩,?_⟩
 cbv
 exact ⟨by exact aJ⟩
def wP (l:List bT):List Int->Option Unit:=λj=>if j∈l.map gw then some () else none
theorem anJ {l:List bT} (h:l.Nodup):(l.map gw).Nodup/\∀n,n∈l.map gw↔(wP l n).isSome=true:=by
 refine ⟨?_,λn=>?_⟩
 ·rw [Jn,yu]
  exact (Jn.1 h).imp λcZ e=>cZ (am8 e)
 ·unfold wP
  split<;>simp_all
theorem anK {l:List bT} {i:Nat} {x:bT} (h:l[i]?=some x):(λj=>if j=gw x then some () else wP (l.take i) j)=wP (l.take (i+1)):=by
 funext j
 unfold wP
 rw [Eg h,Nn,lM,List.map_nil]
 by_cases e:j=gw x
 ·simp [e]
 ·simp [e]
theorem alZ {l m:List (List Int)} (hn:l.Nodup) (hs:∀x∈l,x∈m):l.length<=m.length:=by
 induction l generalizing m with
 | nil=>simp
 | cons a r ih =>
  have nW:=qS.1 hn
  have ha:=hs a (by simp)
  have h1:=ih (m:=m.erase a) nW.2 λx hx=>by
   have cZ:x≠a:=by rintro rfl;exact nW.1 hx
   exact (List.mem_erase_of_ne cZ).2 (hs x (by simp [hx]))
  rw [List.length_erase_of_mem ha] at h1
  have h2:0 < m.length:=List.length_pos_of_mem ha
  simp only [Aa]
  omega
theorem ab8 {l:List bT} {n:List Int} {t:Unit} (h:wP l n=some t):∃x∈l,n=gw x:=by
 unfold wP at h
 split at h
 ·rename_i hm
  obtain ⟨x,hx,e⟩:=j3.1 hm
  exact ⟨x,hx,e.symm⟩
 ·cases h
theorem aei {l:List bT} {x:bT} (h:x∈l):wP l (gw x)=some ():=by
 unfold wP;rw [if_pos (Gb h)]
structure Seen (l:List bT) (s:List (List Int)):Prop where
 sub:∀k∈s,k∈l.map gw
 nd:s.Nodup
theorem Seen.more {l:List bT} {s:List (List Int)} (h:Seen l s) {x:bT} (hx:x∈l) (hn:gw x∉s):Seen l (s++[gw x])/\l.length - (s++[gw x]).length < l.length - s.length:=by
 have h1:Seen l (s++[gw x]):=⟨λk hk=>by
  rcases List.mem_append.1 hk with hk|hk
  ·exact h.sub k hk
  ·rw [BI.1 hk];exact Gb hx,DT.2 ⟨h.nd,by simp,λa ha b hb e=>by simp at hb;subst hb;subst e;exact hn ha⟩⟩
 have h2:=alZ h1.nd h1.sub
 rw [fZ,oT,nK] at h2
 exact ⟨h1,by rw [fZ,nK];omega⟩
theorem ahF:∃f:List bT->List Int->Option Unit,f=wP:=⟨_,rfl⟩
noncomputable def pv:List bT->List Int->Option Unit:=Classical.choose ahF
theorem Er:pv=wP:=w_ ahF
theorem ab9 {l:List bT} {i:Nat} {x:bT} (h:l[i]?=some x):(λj=>if j=gw x then some () else pv (l.take i) j)=pv (l.take (i+1)):=by rw [Er];exact anK h
theorem adg:(λ_=>none)=pv []:=by rw [Er];funext j;simp [wP]
theorem ab_ {l:List bT} (h:l.Nodup):(l.map gw).Nodup/\∀n,n∈l.map gw↔(pv l n).isSome=true:=by rw [Er];exact anJ h
structure tO where
 n:Net
 m:gE
structure WW (y:tO):Prop where
 Bg:eQ y.n
 outs:y.n.outs.length<=100000
 ay:y.m.ay.length<=100000
@[reducible] noncomputable def SZ:Vc.Spec where
 α:=tO
 args y:=[.agg [.sl 3 dc (λ_=>y.n.ins),.sl 5 dB (λ_=>y.n.gG),.sl 3 dc (λ_=>y.n.outs),.sl 1 bJ (λ_=>y.n.ay)],.agg [.i .i64 (λ_=>y.m.n),.sl 3 rf (λ_=>y.m.cells),.sl 1 bJ (λ_=>y.m.ay)]]
 pre y:=WW y
 res y:=.b (λ_=>aV (y.n.ins.length:Int) y.m.n&&aV (y.n.outs.length:Int) (y.m.ay.length:Int))
def CJ:Unit->List SV:=λ_=>[.bc true]
noncomputable def cPb (n m:Nat):Ctx:=eB n m [] [] [] [] [12]
theorem VB (n m:Nat):CB PP (cPb n m):=eD n m trivial trivial
noncomputable def auf (n m:Nat):Ctx:=eB n m [] []
theorem UF (n m:Nat):CB PP (auf n m):=eD n m trivial trivial
theorem alu:cS (PP ()) 164 SZ:=by
 refine dP (VB 0 0) (fo Tryz.func164) (λa=>⟨⟨(λx=>(gL x).1),(λx=>(eK x).1),(λx=>(gL x).1),(λx=>(cM x).1),trivial⟩,⟨trivial,(λx=>(Af x).1),(λx=>(cM x).1),trivial⟩,trivial⟩) (λa=>trivial) ?_
 rintro ⟨⟨ins,gs,outs,dr⟩,⟨mn,mc,md⟩⟩ hx
 have hx:WW ⟨⟨ins,gs,outs,dr⟩,⟨mn,mc,md⟩⟩:=hx
 have jS:=hx.Bg
 have v5:2+ins.length+gs.length<=600:=jS.pf
 have L_:outs.length<=100000:=hx.outs
 have Ir:md.length<=100000:=hx.ay
 obtain ⟨R,hR⟩:∃R,(aV (ins.length:Int) mn&&aV (outs.length:Int) (md.length:Int))=R:=⟨_,rfl⟩
 have j9:SZ.res ⟨⟨ins,gs,outs,dr⟩,⟨mn,mc,md⟩⟩=.b (λ_=>R):=by rw [<-hR]
 rw [j9]
 have aug:aV ((ins.map gw).length:Int) (ins.length:Int)=true:=by rw [oT];simp [aV]
 have auh:aV ((outs.map gw).length:Int) (outs.length:Int)=true:=by rw [oT];simp [aV]
 refine ⟨?_⟩
 cbv
 have iL:(λ_=>none)=pv (ins.take 0):=adg
 have iB:(λ_=>none)=pv (outs.take 0):=adg
 refine Sat.ca (VB 0 0) 4 7 [] (λi:Nat=>[(16,.sl 3 dc (λ_=>ins)),(17,.i .i64 (λ_=>(ins.length:Int))),(18,.i .i64 (λ_=>(i:Int)))]) (λi=>[(2,.map kW CJ (λ_=>pv (ins.take i)))]) (λi=>i<=ins.length) (λi=>ins.length - i) 0 (by exact ao) (by have g_:=iL;exact bH) (cJ _) ?_
 intro i hi
 have hi:i<=ins.length:=hi
 have h0:=n0 i
 have h1:=cd (i:=i) (by omega)
 cbv
 refine ⟨λh=>?_,λh=>?_⟩
 ·have bp:i < ins.length:=bE
  have a7:ins.length - (i+1) < ins.length - i:=by omega
  refine (bz bp).elim λx pV=>?_
  have cG:=ab9 pV
  cbv
  refine ⟨x,⟨h0,pV⟩,?_⟩
  cbv
  refine ⟨(),⟨by exact bP⟩,?_⟩
  cbv
  exact ⟨i+1,by exact ao,by have g_:=cG;exact bH,⟨⟨bp,a7⟩⟩⟩
 have bR:i=ins.length:=by
  have h':aS i ins.length=false:=h.out
  have h2:¬(i:Int) < ins.length:=by simpa [aS] using h'
  omega
 have dK:pv (ins.take i)=pv ins:=by rw [bR,kh]
 clear h h0 h1
 cbv
 refine Sat.ca (VB 0 0) 4 7 [] (λj:Nat=>[(26,.sl 3 dc (λ_=>outs)),(27,.i .i64 (λ_=>(outs.length:Int))),(28,.i .i64 (λ_=>(j:Int)))]) (λj=>[(2,.map kW CJ (λ_=>pv ins)),(3,.map kW CJ (λ_=>pv (outs.take j)))]) (λj=>j<=outs.length) (λj=>outs.length - j) 0 (by exact ao) (by have g_:=dK;have zm:=iB;exact bH) (cJ _) ?_
 intro j hj
 have hj:j<=outs.length:=hj
 have h0:=n0 j
 have h1:=cd (i:=j) (by omega)
 cbv
 refine ⟨λh=>?_,λh=>?_⟩
 ·have bp:j < outs.length:=bE
  have a7:outs.length - (j+1) < outs.length - j:=by omega
  refine (bz bp).elim λx pV=>?_
  have cG:=ab9 pV
  cbv
  refine ⟨x,⟨h0,pV⟩,?_⟩
  cbv
  refine ⟨(),⟨by exact bP⟩,?_⟩
  cbv
  exact ⟨j+1,by exact ao,by have g_:=cG;exact bH,⟨⟨bp,a7⟩⟩⟩
 have tM:j=outs.length:=by
  have h':aS j outs.length=false:=h.out
  have h2:¬(j:Int) < outs.length:=by simpa [aS] using h'
  omega
 have bV:pv (outs.take j)=pv outs:=by rw [tM,kh]
 clear h h0 h1
 cbv
 refine Sat.freeze 2 rfl rfl ?_
 refine Sat.freeze 3 rfl rfl ?_
 refine Sat.tZ (UF 0 0) ?_
 cbv
 refine Sat.ca (UF 0 0) 5 5 [] (λl:List (List Int)=>[(5,.mp kW CJ (λ_=>pv ins)),(6,.mp kW CJ (λ_=>pv outs)),(36,.ptr 4 0)]) (λl=>[(4,.iter kW CJ (λ_=>pv ins) (λ_=>l) none)]) (λl=>Seen ins l) (λl=>ins.length - l.length) [] (by have XH:=bV;have dM:=bV;exact bH) (by exact ao) ⟨by simp,DK⟩ ?_
 intro l hl
 have hl:Seen ins l:=hl
 cbv
 refine ⟨λh=>?_,λn t h=>?_⟩
 rotate_left
 ·obtain ⟨g1,g2⟩:=h.out
  rw [Er] at g1
  obtain ⟨x,gk,nU⟩:=ab8 g1
  clear g1
  subst nU
  have qJ:=jS.ins x gk
  have je:x.kind=1->pv outs (gw x)=some ():=λh=>by rw [Er];exact aei ((jS.aN x h).1 gk)
  obtain ⟨j7,jj⟩:=hl.more gk g2
  have aui:¬31 < x.i:=by have:=qJ.2;omega
  clear g2 qJ
  cbv
  refine ⟨λh=>?_,λh=>?_⟩
  ·have hk:x.kind=1:=bE
   cbv
   refine ⟨some (some ()),⟨je hk⟩,?_⟩
   cbv
   refine ⟨λh=>?_,λh=>?_⟩
   ·have hF:False:=by
     have h':aS 31 x.i=true:=h.out
     simp only [aS,decide_eq_true_eq] at h';omega
    cases hF
   ·cbv
    exact ⟨l++[gw x],by exact ao,by exact bH,⟨⟨j7,jj⟩⟩⟩
  ·cbv
   exact ⟨l++[gw x],by exact ao,by exact bH,⟨⟨j7,jj⟩⟩⟩
 clear h hl
 cbv
 refine Sat.ca (UF 0 0) 6 7 [] (λl:List (List Int)=>[(56,.ptr 5 0)]) (λl=>[(5,.iter kW CJ (λ_=>pv outs) (λ_=>l) none)]) (λl=>Seen outs l) (λl=>outs.length - l.length) [] (by exact ao) (by exact ao) ⟨by simp,DK⟩ ?_
 intro l hl
 have hl:Seen outs l:=hl
 cbv
 refine ⟨λh=>?_,λn t h=>?_⟩
 rotate_left
 ·obtain ⟨g1,g2⟩:=h.out
  rw [Er] at g1
  obtain ⟨x,gk,nU⟩:=ab8 g1
  clear g1
  subst nU
  have je:x.kind=1->pv ins (gw x)=some ():=λh=>by rw [Er];exact aei ((jS.aN x h).2 gk)
  obtain ⟨j7,jj⟩:=hl.more gk g2
  clear g2
  cbv
  refine ⟨λh=>?_,λh=>?_⟩
  ·have hk:x.kind=1:=bE
   cbv
   refine ⟨some (some ()),⟨je hk⟩,?_⟩
   cbv
   exact ⟨l++[gw x],by exact ao,by exact bH,⟨⟨j7,jj⟩⟩⟩
  ·cbv
   exact ⟨l++[gw x],by exact ao,by exact bH,⟨⟨j7,jj⟩⟩⟩
 clear h hl
 cbv
 refine ⟨λh=>?_,λh=>?_⟩
 rotate_left
 ·have e:false=R:=by rw [<-hR,show aV (ins.length:Int) mn=false from h.out];rfl
  cbv
  exact ⟨by exact aJ⟩
 have hA:aV (ins.length:Int) mn=true:=h.out
 rw [hA,Jf] at hR
 clear h
 cbv
 refine ⟨λh=>?_,λh=>?_⟩
 rotate_left
 ·have e:false=R:=by rw [<-hR];exact h.out.symm
  cbv
  exact ⟨by exact aJ⟩
 have hB:aV (outs.length:Int) (md.length:Int)=true:=h.out
 have e:true=R:=by rw [<-hR,hB]
 clear h
 cbv
 refine ⟨ins.map gw,⟨ab_ jS.ind⟩,?_⟩
 cbv
 refine ⟨λh=>?_,λh=>?_⟩
 rotate_left
 ·have hF:False:=by have h':aV ((ins.map gw).length:Int) (ins.length:Int)=false:=h.out;rw [aug] at h';cases h'
  cases hF
 clear h
 cbv
 refine ⟨outs.map gw,⟨ab_ jS.KK⟩,?_⟩
 cbv
 have e2:aV ((outs.map gw).length:Int) (outs.length:Int)=R:=by rw [auh];exact e
 exact ⟨by exact aJ⟩
def Fg (l:List Int) (i:Nat):Int->Option Unit:=λk=>if k∈l.take i then some () else none
theorem amF {l:List Int} {i:Nat} {x:Int} (h:l[i]?=some x):(λj=>if j=x then some () else Fg l i j)=Fg l (i+1):=by
 funext j
 unfold Fg
 rw [take_one h]
 by_cases e:j=x
 ·simp [e]
 ·simp [e]
open Classical in
noncomputable def yU (p q:bq):Bool:=decide (Hi p q)
structure ahG where
 p:bq
 q:bq
structure Lf (y:ahG):Prop where
 pi:y.p.ins.length<=1000000
 po:y.p.outs.length<=1000000
 pb:y.p.blocks.length<=1000000
 pd:y.p.ay.length<=1000000
 pk:∀x∈y.p.blocks,x.ins.length<=1000000
 qi:y.q.ins.length<=1000000
 qo:y.q.outs.length<=1000000
 qb:y.q.blocks.length<=1000000
 qd:y.q.ay.length<=1000000
 qk:∀x∈y.q.blocks,x.ins.length<=1000000
 used:∀x∈y.q.blocks,∀s∈x.ins,0<=s/\s < y.q.sigs
 ay:∀s∈y.q.ay,0<=s/\s < y.q.sigs
@[reducible] noncomputable def Po:Vc.Spec where
 α:=ahG
 args y:=[.agg (fq y.p),.agg (fq y.q)]
 pre y:=Lf y
 res y:=.b (λ_=>yU y.p y.q)
noncomputable def cSm (n m:Nat):Ctx:=eB n m [] [(92,Vd),(96,Ve),(97,aed)]
theorem Pp (n m:Nat):CB PP (cSm n m):=eD n m trivial ⟨aoB,aoC,anE,trivial⟩
theorem adh:cS (PP ()) 24 Po:=by
 refine dP (Pp 0 0) (fo Tryz.func24) (λa=>⟨km a.p,km a.q,trivial⟩) (λa=>trivial) ?_
 rintro ⟨⟨pins,dQ,fe,eY⟩,⟨ins,blocks,outs,ay⟩⟩ hx
 have hx:Lf ⟨⟨pins,dQ,fe,eY⟩,⟨ins,blocks,outs,ay⟩⟩:=hx
 obtain ⟨R,hR⟩:∃R,yU ⟨pins,dQ,fe,eY⟩ ⟨ins,blocks,outs,ay⟩=R:=⟨_,rfl⟩
 have j9:Po.res ⟨⟨pins,dQ,fe,eY⟩,⟨ins,blocks,outs,ay⟩⟩=.b (λ_=>R):=by rw [<-hR]
 rw [j9]
 have et:¬Hi ⟨pins,dQ,fe,eY⟩ ⟨ins,blocks,outs,ay⟩->false=R:=λh=>by rw [<-hR];unfold yU;simp [h]
 have y_:Hi ⟨pins,dQ,fe,eY⟩ ⟨ins,blocks,outs,ay⟩->true=R:=λh=>by rw [<-hR];unfold yU;simp [h]
 clear j9 hR
 have auj:pins.length<=1000000:=hx.pi
 have auk:ins.length<=1000000:=hx.qi
 have az3:dQ.length<=1000000:=hx.pb
 have aul:blocks.length<=1000000:=hx.qb
 obtain ⟨E1,hE1⟩:∃E,jv pins ins=E:=⟨_,rfl⟩
 obtain ⟨E2,hE2⟩:∃E,jv fe outs=E:=⟨_,rfl⟩
 refine ⟨?_⟩
 cbv
 refine ⟨⟨pins,ins⟩,⟨by exact bP,hx.pi,hx.qi⟩,?_⟩
 cbv
 refine ⟨λh=>?_,λh=>?_⟩
 ·have e:false=R:=et λhs=>by
   have h':(!jv pins ins)=true:=h.out
   rw [sE.2 hs.ins] at h';cases h'
  cbv
  exact ⟨by exact aJ⟩
 have hi:pins=ins:=by
  have h':(!jv pins ins)=false:=h.out
  exact sE.1 (by simpa using h')
 clear h
 cbv
 refine ⟨⟨fe,outs⟩,⟨by exact bP,hx.po,hx.qo⟩,?_⟩
 cbv
 refine ⟨λh=>?_,λh=>?_⟩
 ·have e:false=R:=et λhs=>by
   have h':(!jv fe outs)=true:=h.out
   rw [sE.2 hs.outs] at h';cases h'
  cbv
  exact ⟨by exact aJ⟩
 have ho:fe=outs:=by
  have h':(!jv fe outs)=false:=h.out
  exact sE.1 (by simpa using h')
 clear h
 cbv
 refine ⟨λh=>?_,λh=>?_⟩
 ·have e:false=R:=et λhs=>by
   have h':(!aV (dQ.length:Int) (blocks.length:Int))=true:=h.out
   have hl:dQ.length=blocks.length:=hs.len
   rw [hl] at h';simp [aV] at h'
  cbv
  exact ⟨by exact aJ⟩
 have hl:dQ.length=blocks.length:=by
  have h':(!aV (dQ.length:Int) (blocks.length:Int))=false:=h.out
  simp only [aV,DS,beq_iff_eq] at h'
  exact aU
 clear h
 obtain ⟨A,hA⟩:∃A:Nat->Int->Option Int,∀i,A i=atR dQ i:=⟨_,λ_=>rfl⟩
 have A3:(λ_=>none)=A 0:=by rw [hA];rfl
 cbv
 refine Sat.ca (Pp 0 0) 4 6 [] (λi:Nat=>[(44,.sl 5 oe (λ_=>dQ)),(45,.i .i64 (λ_=>(dQ.length:Int))),(46,.i .i64 (λ_=>(i:Int)))]) (λi=>[(2,.map kU bJ (λ_=>A i))]) (λi=>i<=dQ.length) (λi=>dQ.length - i) 0 (by exact ao) (by have g_:=A3;exact bH) (cJ _) ?_
 intro i gQ
 have gQ:i<=dQ.length:=gQ
 have h0:=n0 i
 have h1:=cd (i:=i) (by omega)
 cbv
 refine ⟨λh=>?_,λh=>?_⟩
 ·have bp:i < dQ.length:=bE
  have a7:dQ.length - (i+1) < dQ.length - i:=by omega
  refine (bz bp).elim λx kJ=>?_
  obtain ⟨v,hv⟩:∃v:Int,(i:Int)=v:=⟨_,rfl⟩
  have cG:(λj=>if j=x.key then some v else A i j)=A (i+1):=by rw [hA,hA,<-hv];exact Ts kJ
  cbv
  refine ⟨x,⟨h0,kJ⟩,?_⟩
  cbv
  refine ⟨v,⟨by have bj:=hv;exact cN⟩,?_⟩
  cbv
  exact ⟨i+1,by exact ao,by have g_:=cG;exact bH,⟨⟨bp,a7⟩⟩⟩
 have bR:i=dQ.length:=by
  have h':aS i dQ.length=false:=h.out
  have h2:¬(i:Int) < dQ.length:=by simpa [aS] using h'
  omega
 obtain ⟨iM,iD⟩:∃a,A i=a:=⟨_,rfl⟩
 have HO:iM=Md ⟨pins,dQ,fe,eY⟩:=by rw [<-iD,hA,bR];rfl
 clear h h0 h1 gQ A3
 obtain ⟨M,hM⟩:∃M:Nat->Int->Option Unit,∀i,M i=Fg (jJ ⟨ins,blocks,outs,ay⟩) i:=⟨_,λ_=>rfl⟩
 have Mh:(λ_=>none)=M 0:=by rw [hM];funext j;simp [Fg]
 cbv
 refine Sat.ca (Pp 0 0) 5 6 [] (λi:Nat=>[(8,.eV 4),(58,.sl 5 oe (λ_=>blocks)),(59,.i .i64 (λ_=>(blocks.length:Int))),(60,.i .i64 (λ_=>(i:Int)))]) (λi=>[(2,.map kU bJ (λ_=>iM)),(4,.map kU CJ (λ_=>M i))])
  (λi=>i<=blocks.length/\(∀j y,j < i->blocks[j]?=some y->y.key∈jJ ⟨pins,dQ,fe,eY⟩)/\((jJ ⟨ins,blocks,outs,ay⟩).take i).Nodup) (λi=>blocks.length - i) 0 (by exact ao) (by have g_:=Mh;have zm:=iD;exact bH) ⟨cJ _,λj y h=>by omega,by simp⟩ ?_
 rintro i ⟨gQ,eN,gz⟩
 have gQ:i<=blocks.length:=gQ
 have eN:∀j y,j < i->blocks[j]?=some y->y.key∈jJ ⟨pins,dQ,fe,eY⟩:=eN
 have gz:((jJ ⟨ins,blocks,outs,ay⟩).take i).Nodup:=gz
 have h0:=n0 i
 have h1:=cd (i:=i) (by omega)
 cbv
 refine ⟨λh=>?_,λh=>?_⟩
 ·have bp:i < blocks.length:=bE
  have a7:blocks.length - (i+1) < blocks.length - i:=by omega
  refine (bz bp).elim λy Dd=>?_
  have pq:(jJ ⟨ins,blocks,outs,ay⟩)[i]?=some y.key:=by unfold jJ;rw [mM];show (blocks[i]?).map _=_;rw [Dd];rfl
  have wN:y.key∈jJ ⟨ins,blocks,outs,ay⟩:=b_ pq
  cbv
  refine ⟨y,⟨h0,Dd⟩,?_⟩
  cbv
  rcases ahH:iM y.key with _|v
  ·have e:false=R:=et λhs=>by
    have h2:=N_.2 (hs.mem y (b_ Dd))
    rw [<-HO,ahH] at h2;cases h2
   refine ⟨some none,⟨rfl⟩,?_⟩
   cbv
   exact ⟨by exact aJ⟩
  ·have hkp:y.key∈jJ ⟨pins,dQ,fe,eY⟩:=N_.1 (by rw [<-HO,ahH];rfl)
   refine ⟨some (some v),⟨rfl⟩,?_⟩
   by_cases dK:y.key∈(jJ ⟨ins,blocks,outs,ay⟩).take i
   ·have Yn:M i y.key=some ():=by rw [hM];unfold Fg;rw [if_pos dK]
    have e:false=R:=et λhs=>by
     have hq:(jJ ⟨ins,blocks,outs,ay⟩).Nodup:=hs.qd
     obtain ⟨j,hj⟩:=na dK
     have eA:=(bX.1 hj).1
     rw [lu] at eA
     rw [Nc (by omega)] at hj
     have:=aaW hq hj pq
     omega
    cbv
    refine ⟨some (some ()),⟨Yn⟩,?_⟩
    cbv
    exact ⟨by exact aJ⟩
   ·have Yn:M i y.key=none:=by rw [hM];unfold Fg;rw [if_neg dK]
    have hMs:(λj=>if j=y.key then some () else M i j)=M (i+1):=by rw [hM,hM];exact amF pq
    have bw:i+1<=blocks.length/\(∀j y,j < i+1->blocks[j]?=some y->y.key∈jJ ⟨pins,dQ,fe,eY⟩)/\((jJ ⟨ins,blocks,outs,ay⟩).take (i+1)).Nodup:=⟨bp,λj z hj hz=>by
     by_cases e:j=i
     ·subst e;rw [Dd] at hz;cases hz;exact hkp
     ·exact eN j z (by omega) hz,by
     rw [take_one pq]
     exact DT.2 ⟨gz,by simp,λa ha b hb e=>by simp at hb;subst hb;subst e;exact dK ha⟩⟩
    cbv
    refine ⟨some none,⟨Yn⟩,?_⟩
    cbv
    refine ⟨(),⟨by exact bP⟩,?_⟩
    cbv
    exact ⟨i+1,by exact ao,by have g_:=hMs;exact bH,⟨⟨bw,a7⟩⟩⟩
 have tM:i=blocks.length:=by
  have h':aS i blocks.length=false:=h.out
  have h2:¬(i:Int) < blocks.length:=by simpa [aS] using h'
  omega
 have hqd:yy ⟨ins,blocks,outs,ay⟩:=by
  have cW:(jJ ⟨ins,blocks,outs,ay⟩).length=i:=by rw [tM];simp [jJ]
  rw [<-cW,kh] at gz
  exact gz
 have eN:∀y∈blocks,y.key∈jJ ⟨pins,dQ,fe,eY⟩:=λy hy=>by
  obtain ⟨j,hj⟩:=na hy
  exact eN j y (by rw [tM];exact (bX.1 hj).1) hj
 clear h h0 h1 gQ Mh
 obtain ⟨ks,k1,k2,k3,k4,k5⟩:=dedup (jJ ⟨pins,dQ,fe,eY⟩)
 have cW:(jJ ⟨pins,dQ,fe,eY⟩).length=dQ.length:=by simp [jJ]
 have sX:ks.Nodup/\∀n,n∈ks↔(iM n).isSome=true:=⟨k1,λn=>by rw [k2,HO,N_]⟩
 cbv
 refine ⟨ks,⟨sX⟩,?_⟩
 cbv
 refine ⟨λh=>?_,λh=>?_⟩
 ·have e:false=R:=et λhs=>by
   have h':(!aV (ks.length:Int) (dQ.length:Int))=true:=h.out
   rw [k5 hs.pd,cW] at h';simp [aV] at h'
  cbv
  exact ⟨by exact aJ⟩
 have Q7:yy ⟨pins,dQ,fe,eY⟩:=k4 (by
  have h':(!aV (ks.length:Int) (dQ.length:Int))=false:=h.out
  simp only [aV,DS,beq_iff_eq] at h'
  rw [cW];exact aU)
 clear h sX
 obtain ⟨N,hN⟩:∃N,v9 pins.length ⟨ins,blocks,outs,ay⟩ iM=N:=⟨_,rfl⟩
 have Yo:∀s,0<=s->s < (⟨ins,blocks,outs,ay⟩:bq).sigs->N s=rv ⟨pins,dQ,fe,eY⟩ ⟨ins,blocks,outs,ay⟩ s:=λs h0 h1=>by
  rw [<-hN,HO];exact aoL (p:=⟨pins,dQ,fe,eY⟩) Q7 eN h0 h1
 have Mf:∀s,0<=s->s < (⟨ins,blocks,outs,ay⟩:bq).sigs->Lc ⟨s,⟨pins,dQ,fe,eY⟩,⟨ins,blocks,outs,ay⟩,iM⟩:=λs h0 h1=>⟨auj,auk,aul,h0,h1,λy hy=>by
  obtain ⟨x,e,gk,_⟩:=UE Q7 (eN y hy)
  have aR:Bh ⟨pins,dQ,fe,eY⟩ y.key < dQ.length:=(bX.1 gk).1
  refine ⟨_,by show iM y.key=_;rw [HO];exact e,by omega,by omega⟩⟩
 cbv
 refine Sat.ca (Pp 0 0) 7 16 [] (λi:Nat=>[(95,.sl 5 oe (λ_=>blocks)),(96,.i .i64 (λ_=>(blocks.length:Int))),(97,.i .i64 (λ_=>(i:Int)))]) (λi=>[])
  (λi=>i<=blocks.length/\∀j y,j < i->blocks[j]?=some y->Hh ⟨pins,dQ,fe,eY⟩ ⟨ins,blocks,outs,ay⟩ y) (λi=>blocks.length - i) 0 (by exact ao) (by exact ao) ⟨cJ _,λj y h=>by omega⟩ ?_
 rintro i ⟨gQ,zB⟩
 have gQ:i<=blocks.length:=gQ
 have zB:∀j y,j < i->blocks[j]?=some y->Hh ⟨pins,dQ,fe,eY⟩ ⟨ins,blocks,outs,ay⟩ y:=zB
 have h0:=n0 i
 have h1:=cd (i:=i) (by omega)
 cbv
 refine ⟨λh=>?_,λh=>?_⟩
 ·have bp:i < blocks.length:=bE
  have a7:blocks.length - (i+1) < blocks.length - i:=by omega
  refine (bz bp).elim λy Dd=>?_
  have zG:=b_ Dd
  refine (UE Q7 (eN y zG)).elim λx XM=>?_
  obtain ⟨ha,gk,lY⟩:=XM
  obtain ⟨v,hv⟩:∃v:Int,(Bh ⟨pins,dQ,fe,eY⟩ y.key:Int)=v:=⟨_,rfl⟩
  rw [hv] at ha
  have CY:iM y.key=some v:=by rw [HO];exact ha
  have gx:0<=v/\dQ[v.toNat]?=some x:=by rw [<-hv];exact ⟨by omega,gk⟩
  have aum:∀z,dQ[Bh ⟨pins,dQ,fe,eY⟩ y.key]?=some z->z=x:=λz hz=>by
   have gk:dQ[Bh ⟨pins,dQ,fe,eY⟩ y.key]?=some x:=gk
   rw [gk] at hz;cases hz;rfl
  have Hn:¬(x.table=y.table/\x.bZ=y.bZ/\x.bf=y.bf/\x.ins=y.ins.map N)->false=R:=λhn=>et λhs=>by
   obtain ⟨z,hz,g1,g2,g3,g4⟩:=hs.Xc y zG
   have:=aum z hz
   subst this
   refine hn ⟨g1,g2,g3,?_⟩
   rw [g4]
   exact (map_eq λs iE=>Yo s (hx.used y zG s iE).1 (hx.used y zG s iE).2).symm
  have xu:x.table=y.table->x.bZ=y.bZ->x.bf=y.bf->x.ins=y.ins.map N->Hh ⟨pins,dQ,fe,eY⟩ ⟨ins,blocks,outs,ay⟩ y:=λg1 g2 g3 g4=>⟨x,gk,g1,g2,g3,by
   rw [g4]
   exact map_eq λs iE=>Yo s (hx.used y zG s iE).1 (hx.used y zG s iE).2⟩
  have Yp:Qb ⟨y.ins,⟨pins,dQ,fe,eY⟩,⟨ins,blocks,outs,ay⟩,iM⟩:=⟨hx.qk y zG,λs hs=>Mf s (hx.used y zG s hs).1 (hx.used y zG s hs).2⟩
  obtain ⟨m2,jj⟩:∃m,y.ins.map N=m:=⟨_,rfl⟩
  have Yq:(⟨x.ins,m2⟩:nt Int).a.length<=1000000/\(⟨x.ins,m2⟩:nt Int).b.length<=1000000:=⟨hx.pk x (b_ gk),by show m2.length<=1000000;rw [<-jj,oT];exact hx.qk y zG⟩
  have Yr:y.ins.map (v9 pins.length ⟨ins,blocks,outs,ay⟩ iM)=m2:=by rw [hN,jj]
  cbv
  refine ⟨y,⟨h0,Dd⟩,?_⟩
  cbv
  refine ⟨some (some v),⟨CY⟩,?_⟩
  cbv
  refine ⟨x,⟨gx⟩,?_⟩
  cbv
  refine ⟨λh=>?_,λh=>?_⟩
  ·have e:false=R:=Hn λg=>by
    have h':(!aV x.table y.table)=true:=h.out
    rw [g.1] at h';simp [aV] at h'
   cbv
   exact ⟨by exact aJ⟩
  have g1:x.table=y.table:=by have h':(!aV x.table y.table)=false:=h.out;simpa [aV] using h'
  clear h
  cbv
  refine ⟨λh=>?_,λh=>?_⟩
  ·have e:false=R:=Hn λg=>by
    have h':(!aV x.bZ y.bZ)=true:=h.out
    rw [g.2.1] at h';simp [aV] at h'
   cbv
   exact ⟨by exact aJ⟩
  have g2:x.bZ=y.bZ:=by have h':(!aV x.bZ y.bZ)=false:=h.out;simpa [aV] using h'
  clear h
  cbv
  refine ⟨λh=>?_,λh=>?_⟩
  ·have e:false=R:=Hn λg=>by
    have h':(!aV x.bf y.bf)=true:=h.out
    rw [g.2.2.1] at h';simp [aV] at h'
   cbv
   exact ⟨by exact aJ⟩
  have g3:x.bf=y.bf:=by have h':(!aV x.bf y.bf)=false:=h.out;simpa [aV] using h'
  clear h
  cbv
  refine ⟨⟨y.ins,⟨pins,dQ,fe,eY⟩,⟨ins,blocks,outs,ay⟩,iM⟩,⟨.inl ⟨by exact bP,rfl⟩,Yp⟩,?_⟩
  cbv
  refine ⟨⟨x.ins,m2⟩,⟨by have dG:=Yr;exact cN,Yq⟩,?_⟩
  cbv
  refine ⟨λh=>?_,λh=>?_⟩
  ·have e:false=R:=Hn λg=>by
    have h':(!jv x.ins m2)=true:=h.out
    rw [sE.2 (g.2.2.2.trans jj)] at h';cases h'
   cbv
   exact ⟨by exact aJ⟩
  have g4:x.ins=y.ins.map N:=by
   have h':(!jv x.ins m2)=false:=h.out
   exact (sE.1 (by simpa using h')).trans jj.symm
  have bw:i+1<=blocks.length/\∀j y,j < i+1->blocks[j]?=some y->Hh ⟨pins,dQ,fe,eY⟩ ⟨ins,blocks,outs,ay⟩ y:=⟨bp,λj z hj hz=>by
   by_cases e:j=i
   ·subst e;rw [Dd] at hz;cases hz;exact xu g1 g2 g3 g4
   ·exact zB j z (by omega) hz⟩
  clear h
  cbv
  exact ⟨i+1,by exact ao,by exact ao,⟨⟨bw,a7⟩⟩⟩
 have PY:i=blocks.length:=by
  have h':aS i blocks.length=false:=h.out
  have h2:¬(i:Int) < blocks.length:=by simpa [aS] using h'
  omega
 have zB:∀y∈blocks,Hh ⟨pins,dQ,fe,eY⟩ ⟨ins,blocks,outs,ay⟩ y:=λy hy=>by
  obtain ⟨j,hj⟩:=na hy
  exact zB j y (by rw [PY];exact (bX.1 hj).1) hj
 have Ys:ay.map N=ay.map (rv ⟨pins,dQ,fe,eY⟩ ⟨ins,blocks,outs,ay⟩):=map_eq λs hs=>Yo s (hx.ay s hs).1 (hx.ay s hs).2
 have Yp:Qb ⟨ay,⟨pins,dQ,fe,eY⟩,⟨ins,blocks,outs,ay⟩,iM⟩:=⟨hx.qd,λs hs=>Mf s (hx.ay s hs).1 (hx.ay s hs).2⟩
 obtain ⟨m2,jj⟩:∃m,ay.map N=m:=⟨_,rfl⟩
 have Yr:ay.map (v9 pins.length ⟨ins,blocks,outs,ay⟩ iM)=m2:=by rw [hN,jj]
 have Yq:(⟨eY,m2⟩:nt Int).a.length<=1000000/\(⟨eY,m2⟩:nt Int).b.length<=1000000:=⟨hx.pd,by show m2.length<=1000000;rw [<-jj,oT];exact hx.qd⟩
 rw [jj] at Ys
 have e:jv eY m2=R:=by
  by_cases hd:eY=m2
  ·rw [sE.2 hd]
   exact y_ ⟨hi,ho,hl,eN,hqd,Q7,zB,hd.trans Ys⟩
  ·rw [Ep hd]
   exact et λhs=>hd ((show eY=ay.map (rv ⟨pins,dQ,fe,eY⟩ ⟨ins,blocks,outs,ay⟩) from hs.ay).trans Ys.symm)
 clear h h0 h1 gQ
 cbv
 refine ⟨⟨ay,⟨pins,dQ,fe,eY⟩,⟨ins,blocks,outs,ay⟩,iM⟩,⟨.inl ⟨by exact bP,rfl⟩,Yp⟩,?_⟩
 cbv
 refine ⟨⟨eY,m2⟩,⟨by have dG:=Yr;exact cN,Yq⟩,?_⟩
 cbv
 exact ⟨by exact aJ⟩
end Go.Proofs.Pk
