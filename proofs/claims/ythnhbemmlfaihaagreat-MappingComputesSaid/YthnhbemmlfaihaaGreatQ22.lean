import Derived.Test.YthnhbemmlfaihaaGreatQ11
import Derived.Test.YthnhbemmlfaihaaGreatQ12
import Derived.Test.YthnhbemmlfaihaaGreatQ13
import Derived.Test.YthnhbemmlfaihaaGreatQ15
import Derived.Test.YthnhbemmlfaihaaGreatQ21
set_option linter.unusedVariables false
set_option linter.unusedSimpArgs false
set_option maxRecDepth 10000
set_option maxHeartbeats 64000000
namespace Go.Proofs.Pk
open Go Go.Vc
theorem ajT {s s':eT} {g:Gate} (h:xL s g=some s'):∃l,s'.labels=s.labels++[1+cU s.labels l]:=by
 unfold xL at h
 dsimp only at h
 split at h
 ·cases h;exact ⟨_,rfl⟩
 ·split at h
  ·cases h
  ·split at h
   ·cases h
   ·cases h;exact ⟨_,rfl⟩
theorem abC {I:Nat}:∀(n:Nat) {gs:List Gate} {s:eT},gs.length=n->kF I gs=some s->∀x∈s.labels,x<=(n:Int)
 | 0,gs,s,hl,h,x,hx=>by
  obtain rfl:=iF hl
  cases h
  have:=(FG.1 hx).2
  omega
 | n+1,gs,s,hl,h,x,hx=>by
  rcases List.eq_nil_or_concat gs with rfl|⟨hs,g,rfl⟩
  ·simp at hl
  rw [List.concat_eq_append] at h hl
  rw [M9] at h
  cases hp:kF I hs with
  | none=>rw [hp] at h;cases h
  | some s0 =>
   rw [hp] at h
   have su:hs.length=n:=by simp at hl;omega
   have ih:=abC n su hp
   obtain ⟨l,e⟩:=ajT (show xL s0 g=some s from h)
   rw [e] at hx
   rcases dR.1 hx with hx|hx
   ·have:=ih x hx;omega
   ·rw [j9] at hx
    have:cU s0.labels l<=(n:Int):=AI (by omega) λv _=>by
     rw [List.getD_eq_getElem?_getD]
     cases hv:s0.labels[v.toNat]? with
     | none=>show (0:Int)<=n;omega
     | some y=>exact ih y (cB hv)
    omega
theorem aay:∀(U N:List (List Int)),(U.foldl uf N).length<=N.length+U.length
 | [],N=>fq _
 | u :: U,N=>by
  rw [kW]
  have h1:=aay U (uf N u)
  have h2:(uf N u).length<=N.length+1:=by
   unfold uf
   split
   ·exact aax N u
   ·omega
  rw [qd];omega
theorem aaz (Co:List (List Int)):∀A:List (List Int),(A.flatMap λa=>Co.map λb=>iS a b).length=A.length*Co.length
 | []=>by simp
 | a :: A=>by
  rw [qN,List.length_append,aaz Co A,iR,qd,Nat.add_mul];omega
theorem akA (A Co:List (List Int)):(sY A Co).length<=A.length*Co.length:=by
 have:=aay (A.flatMap λa=>Co.map λb=>iS a b) []
 rw [aaz,FK,py] at this
 exact this
theorem aaA {C:List (List (List Int))} (hC:∀c∈C,c.length<=400):∀(ops:List Int) (A:List (List Int)),(ops.foldl (λall o=>sY all (C.getD o.toNat [])) A).length<=A.length*400^ops.length
 | [],A=>by simp
 | o :: r,A=>by
  rw [kW]
  have h1:=aaA hC r (sY A (C.getD o.toNat []))
  have h2:(C.getD o.toNat []).length<=400:=by
   rw [List.getD_eq_getElem?_getD]
   cases h:C[o.toNat]? with
   | none=>exact cg _
   | some c=>exact hC c (cB h)
  have h3:=oR (akA A (C.getD o.toNat [])) (Nat.mul_le_mul_left A.length h2)
  have h4:=xD (400^r.length) h3
  rw [qd,Nat.pow_succ,Nat.mul_comm (400^r.length) 400,<-Nat.mul_assoc]
  exact oR h1 h4
theorem ajU {C:List (List (List Int))} (hC:∀c∈C,c.length<=400) {ops:List Int} (ho:ops.length<=3):(qj C ops).length<=100000000:=by
 unfold qj
 rw [(Av _).length_eq]
 have h1:=aaA hC ops [[]]
 have h2:400^ops.length<=400^3:=MH (by omega) ho
 have h3:(400:Nat)^3=64000000:=by decide
 simp only [xC,Nat.one_mul] at h1
 omega
theorem ca.take {I:Nat} {gs:List Gate} (G:ca I gs) (j:Nat):ca I (gs.take j):=ca.left (hs:=gs.drop j) (by rw [List.take_append_drop];exact G)
theorem Zu {A:Type} {l:List A} {j:Nat} {x:A} (h:l[j]?=some x):l.take (j+1)=l.take j++[x]:=by rw [jR,h];rfl
theorem am4 {n:Net} (G:ca n.ins.length n.aT) {j:Nat} (hj:j < n.aT.length) {s:eT} (hs:kF n.ins.length (n.aT.take j)=some s):G4 n s (2+n.ins.length+j) (kF n.ins.length (n.aT.take (j+1))):=by
 have vB:=G.k8
 have Gt:=G.take j
 have kI:=Js _ rfl Gt hs
 have K7:(n.aT.take j).length=j:=by rw [iw];omega
 have DW:∀x∈s.labels,0<=x/\x<=1000000:=λx hx=>by
  have h1:=abC _ K7 hs x hx
  have h2:=kI.pos x hx
  omega
 have kP:=kI.len
 have jC:=kI.GY
 have lT:=kI.q9
 rw [K7] at kP jC lT
 have hg:∀g,n.aT[2+n.ins.length+j - 2 - n.ins.length]?=some g->n.aT[j]?=some g:=λg h=>by rw [<-h];congr 1;omega
 have ia:∀l:List Int,l.length<=4->(∀x∈l,0<=x/\x < 2+(n.ins.length:Int)+j)->mG s.labels l:=λl h1 h2=>⟨by omega,λv hv=>by have:=h2 v hv;rw [kP];omega,DW⟩
 refine ⟨by omega,kP,jC,lT,by omega,by omega,λh=>by omega,λg _ h=>?_,λg _ h _=>?_,λg _ h h7=>?_⟩
 ·rw [Zu (hg g h),M9,hs];rfl
 ·have ho:=xF g
  exact ia _ (by omega) (G.ops (hg g h))
 ·have KL:=hg g h
  have ho:=xF g
  have fC:=G.ops KL
  have G1:ca n.ins.length (n.aT.take j++[g]):=by rw [<-Zu KL];exact G.take (j+1)
  have hM:=RZ Gt kI (m:=2+n.ins.length+j) (by rw [K7];omega) (l:=cC g) (λo ho=>by have:=fC o ho;omega)
  refine ⟨⟨ho.2,λo ho=>by have:=fC o ho;rw [jC];omega,kI.e6,λc hc l hl=>?_,rfl,?_⟩,ajU kI.e6 ho.2,λy hy=>ia y (hM.len y hy) λx hx=>by have:=hM.lim y hy x hx;omega⟩
  ·obtain ⟨v,hv⟩:=nG hc
   exact (kI.cut v c hv).1.len l hl
  ·exact List.length_pos_iff.2 (ako G1 kI)
theorem ajt (k:Nat):lQ (k+1)=⟨(lQ k).labels++[0],(lQ k).gG++[[[2+(k:Int)]]],(lQ k).leaves++[[]]⟩:=by
 simp only [lQ,eT.mk.injEq]
 refine ⟨?_,?_,?_⟩
 ·rw [<-Nat.add_assoc,List.replicate_succ']
 ·rw [Ay,qe,List.append_assoc];rfl
 ·rw [<-Nat.add_assoc,List.replicate_succ']
theorem alQ {n:Net} (hb:n.ins.length+n.aT.length<=1000000) {k:Nat} (hk:k < n.ins.length):G4 n (lQ k) (2+k) (some (lQ (k+1))):=by
 refine ⟨by omega,by simp [lQ],by simp [lQ];omega,by simp [lQ],hb,by omega,λ_=>?_,λg h=>by omega,λg h=>by omega,λg h=>by omega⟩
 rw [ajt,Int.natCast_add];rfl
def nV (I:Nat) (gs:List Gate) (k:Nat):Option eT:=if k<=I then some (lQ k) else kF I (gs.take (k - I))
theorem acv (I:Nat) (gs:List Gate):nV I gs 0=some (lQ 0):=by unfold nV;rw [if_pos (cg _)]
theorem S3 {I:Nat} {gs:List Gate} {j:Nat}:nV I gs (I+j)=kF I (gs.take j):=by
 unfold nV
 split
 ·have:j=0:=by omega
  subst this;rfl
 ·rw [Re]
theorem alR {I:Nat} {gs:List Gate} {k:Nat} (h:I+gs.length<=k):nV I gs k=kF I gs:=by
 obtain ⟨j,rfl⟩:∃j,k=I+j:=⟨k - I,by omega⟩
 rw [S3,iQ (by omega)]
theorem Zv {I:Nat}:∀(hs gs:List Gate),kF I gs=none->kF I (gs++hs)=none
 | [],gs,h=>by simpa using h
 | g :: hs,gs,h=>by
  rw [show gs++g :: hs=(gs++[g])++hs by simp]
  exact Zv hs _ (by rw [M9,h];rfl)
theorem akB {I:Nat} {gs:List Gate} {k:Nat} (h:nV I gs k=none):kF I gs=none:=by
 unfold nV at h
 split at h
 ·cases h
 ·have:=Zv (gs.drop (k - I)) _ h
  rwa [List.take_append_drop] at this
theorem aqq {n:Net} (G:ca n.ins.length n.aT) {k:Nat} (hk:k < n.ins.length+n.aT.length) {s:eT} (hs:nV n.ins.length n.aT k=some s):G4 n s (2+k) (nV n.ins.length n.aT (k+1)):=by
 have hb:=G.k8
 by_cases hi:k < n.ins.length
 ·unfold nV at hs ⊢
  rw [if_pos (by omega)] at hs ⊢
  cases hs
  exact alQ (by omega) hi
 ·obtain ⟨j,rfl⟩:∃j,k=n.ins.length+j:=⟨k - n.ins.length,by omega⟩
  rw [S3] at hs
  rw [Nat.add_assoc n.ins.length,S3,<-Nat.add_assoc 2]
  exact am4 G (by omega) hs
structure adP where
 n:Net
 out:Option eT
@[reducible] noncomputable def UQ:Vc.Spec where
 α:=adP
 args x:=[.agg [.sl 3 jq (λ_=>x.n.ins),.sl 5 kC (λ_=>x.n.aT),.sl 3 jq (λ_=>x.n.outs),.sl 1 bP (λ_=>x.n.bj)]]
 pre x:=ca x.n.ins.length x.n.aT/\kF x.n.ins.length x.n.aT=x.out
 res x:=match x.out with
  | some s=>.cS [.dU (OZ x.n s) 0,.ic .i64 0]
  | none=>.cS [.cell,.ic .i64 2]
noncomputable def asq (n m:Nat):Ctx:=dH n m [] [] [] [] [] [113,35] [35]
theorem acw (n m:Nat):CB PP (asq n m):=dK n m trivial trivial
noncomputable def asr (n m:Nat):Ctx:=dH n m [] []
theorem aof (n m:Nat):CB PP (asr n m):=dK n m trivial trivial
noncomputable def ass (n m:Nat):Ctx:=dH n m [(237,Tryz.f237)] [] [237] [] [1,2,9]
theorem acx (n m:Nat):CB PP (ass n m):=dK n m ⟨fo Tryz.func237,trivial⟩ trivial
theorem acz:cR (PP ()) 181 UQ:=by
 refine et (acx 0 0) (fo Tryz.func181) (λa=>⟨⟨λx=>(ve x).1,λx=>(tZ x).1,λx=>(ve x).1,λx=>(df x).1,trivial⟩,trivial⟩) (λa=>by rcases a with ⟨n,_|s⟩<;>first|exact ⟨trivial,trivial,trivial⟩|exact ⟨abw n s,trivial,trivial⟩) ?_
 rintro ⟨⟨ins,gs,outs,dr⟩,out⟩ hx
 obtain ⟨G,cb⟩:ca ins.length gs/\kF ins.length gs=out:=hx
 have hb:=G.k8
 obtain ⟨N,hN⟩:∃N,ins.length+gs.length=N:=⟨_,rfl⟩
 have hw:IntKind.i64.wrap ((ins.length:Int)+(gs.length:Int))=(N:Int):=by rw [dt (by omega) (by omega)];omega
 obtain ⟨Sf,tv⟩:∃Sf:Nat->eT,∀k,Sf k=(nV ins.length gs k).getD ⟨[],[],[]⟩:=⟨_,λ_=>rfl⟩
 have HJ:nV ins.length gs 0=some (Sf 0):=by rw [tv,acv];rfl
 have O3:Sf 0=lQ 0:=by rw [tv,acv];rfl
 have z1:[0,0]=(Sf 0).labels:=by rw [O3];rfl
 have z2:[[[]],[[]]]=(Sf 0).gG:=by rw [O3];rfl
 have z3:List.replicate (2:Int).toNat ([]:List Int)=(Sf 0).leaves:=by rw [O3];rfl
 have hSs:∀k s',nV ins.length gs k=some s'->Sf k=s':=λk s' h=>by rw [tv,h];rfl
 have gC:∀k,k < N->nV ins.length gs k=some (Sf k)->G4 ⟨ins,gs,outs,dr⟩ (Sf k) (2+k) (nV ins.length gs (k+1)):=λk hk h=>aqq (n:=⟨ins,gs,outs,dr⟩) G (by show k < ins.length+gs.length;omega) h
 have dg:∀k,nV ins.length gs k=none->out=none:=λk h=>by rw [<-cb];exact akB h
 have jA:∀k,N<=k->nV ins.length gs k=some (Sf k)->out=some (Sf k):=λk hk h=>by rw [<-cb,<-alR (by omega:ins.length+gs.length<=k)];exact h
 have hNb:N<=600:=by omega
 clear tv O3
 refine ⟨?_⟩
 cbv
 refine Sat.j2 (acw 0 0) ?_
 cbv
 refine Sat.j2 (acw 0 0) ?_
 cbv
 refine ⟨[0,0],⟨by exact bp,rfl⟩,?_⟩
 cbv
 refine ⟨[[[]],[[]]],⟨by exact bp,rfl⟩,?_⟩
 cbv
 refine ⟨⟨by decide,by decide,by decide,by decide⟩,?_⟩
 refine Sat.dq (acx 0 0) 7 6 [(.c 6 4,3),(.c 6 5,4),(.c 6 6,5)] (λk:Nat=>[(23,.i .i64 (λ_=>(N:Int))),(24,.i .i64 (λ_=>(k:Int)))]) (λk=>[(3,.dyn 3 1 bP (λ_=>(Sf k).labels)),(4,.dyn 36 1 Dy (λ_=>(Sf k).gG)),(5,.dyn 35 1 e8 (λ_=>(Sf k).leaves))]) (λk=>k<=N/\nV ins.length gs k=some (Sf k)) (λk=>N - k) 0 (by have bH:=hw;exact bh) (by have fc:=z1;have sr:=z2;have yo:=z3;exact bh) ⟨cg _,HJ⟩ ?_
 intro k hk
 obtain ⟨hk,HG⟩:k<=N/\nV ins.length gs k=some (Sf k):=hk
 have jd:=dC (i:=k) (by omega)
 have hv:IntKind.i64.wrap (2+(k:Int))=((2+k:Nat):Int):=by rw [dt (by omega) (by omega)];omega
 cbv
 refine ⟨λh=>?_,λh=>?_⟩
 rotate_left
 ·have cG:N<=k:=aH
  obtain rfl:=jA k cG HG
  cbv
  refine Sat.freeze 3 rfl rfl ?_
  refine Sat.freeze 4 rfl rfl ?_
  refine Sat.freeze 5 rfl rfl ?_
  refine Sat.freeze 6 rfl rfl ?_
  refine Sat.j2 (aof 0 0) ?_
  cbv
  exact ⟨by exact bp⟩
 have hkN:k < N:=aH
 have BQ:=gC k hkN HG
 obtain ⟨V,hV⟩:∃V,2+k=V:=⟨_,rfl⟩
 rw [hV] at BQ hv
 have bZ:N - (k+1) < N - k:=by omega
 clear h
 rcases hO:nV ins.length gs (k+1) with _|s'
 ·rw [hO] at BQ
  obtain rfl:=dg (k+1) hO
  cbv
  refine gw.vL adO (λa y=>trivial) ⟨⟨ins,gs,outs,dr⟩,Sf k,V,none⟩ [6,3,4,5] rfl (by have bH:=hv;exact bX) (by exact aM) ⟨BQ⟩ λ_ _=>?_
  cbv
  refine ⟨λh=>?_,λh=>?_⟩
  ·cbv
   exact ⟨by ((try cbv)<;>((repeat' first|exact dF.nil|exact Le.refl _|refine dF.cons ?_ ?_|exact Le.ic rfl|exact Le.bc rfl|exact Le.i rfl|exact Le.b rfl|exact Le.sl rfl|exact Le.mp rfl|exact Le.gH rfl|exact Le.qu rfl|refine Le.cW rfl (λ_=>?_)|refine Le.eF rfl (λ_ _=>rfl) (λ_=>?_) ?_|refine Le.agg ?_|refine Le.cS ?_|refine Le.fn ?_ ?_|refine Le.dU ?_|exact trivial|refine And.intro ?_ ?_|refine λ_=>?_|exact Le.any _)))<;>exact .cell rfl⟩
  ·have h':(!(none:Option eT).isSome)=false:=h.out
   cases h'
 ·rw [hO] at BQ
  have e:=hSs (k+1) s' hO
  have e1:((some s').getD (Sf k)).labels=(Sf (k+1)).labels:=by rw [e];rfl
  have e2:((some s').getD (Sf k)).gG=(Sf (k+1)).gG:=by rw [e];rfl
  have e3:((some s').getD (Sf k)).leaves=(Sf (k+1)).leaves:=by rw [e];rfl
  have gy:(k+1<=N/\nV ins.length gs (k+1)=some (Sf (k+1)))/\N - (k+1) < N - k:=⟨⟨hkN,by rw [e];exact hO⟩,bZ⟩
  cbv
  refine gw.vL adO (λa y=>trivial) ⟨⟨ins,gs,outs,dr⟩,Sf k,V,some s'⟩ [6,3,4,5] rfl (by have bH:=hv;exact bX) (by exact aM) ⟨BQ⟩ λ_ _=>?_
  cbv
  refine ⟨λh=>?_,λh=>?_⟩
  ·have h':(!(some s').isSome)=true:=h.out
   cases h'
  cbv
  exact ⟨k+1,by have bH:=jd;exact bh,by have fc:=e1;have sr:=e2;have yo:=e3;exact bh,⟨gy⟩⟩
@[reducible] noncomputable def UR:Vc.Spec where
 α:=adP
 args x:=[.agg [.sl 3 jq (λ_=>x.n.ins),.sl 5 kC (λ_=>x.n.aT),.sl 3 jq (λ_=>x.n.outs),.sl 1 bP (λ_=>x.n.bj)]]
 pre x:=ca x.n.ins.length x.n.aT/\kF x.n.ins.length x.n.aT=x.out
 res x:=match x.out with
  | some s=>.cS [.sl 1 bP (λ_=>s.labels),.ic .i64 0]
  | none=>.cS [.cW,.ic .i64 2]
noncomputable def ast (n m:Nat):Ctx:=dH n m [] [(181,UQ)]
theorem aog (n m:Nat):CB PP (ast n m):=dK n m trivial ⟨acz,trivial⟩
theorem acA:cR (PP ()) 105 UR:=by
 refine et (aog 0 0) (fo Tryz.func105) (λa=>⟨⟨λx=>(ve x).1,λx=>(tZ x).1,λx=>(ve x).1,λx=>(df x).1,trivial⟩,trivial⟩) (λa=>by rcases a with ⟨n,_|s⟩<;>first|exact ⟨trivial,trivial,trivial⟩|exact ⟨λx=>(df x).1,trivial,trivial⟩) ?_
 rintro ⟨⟨ins,gs,outs,dr⟩,_|s⟩ hx
 ·have hx:ca ins.length gs/\kF ins.length gs=none:=hx
  refine ⟨?_⟩
  cbv
  refine ⟨⟨⟨ins,gs,outs,dr⟩,none⟩,⟨by exact bp,hx⟩,?_⟩
  cbv
  exact ⟨by exact bp⟩
 ·have hx:ca ins.length gs/\kF ins.length gs=some s:=hx
  refine ⟨?_⟩
  cbv
  refine ⟨⟨⟨ins,gs,outs,dr⟩,some s⟩,⟨by exact bp,hx⟩,?_⟩
  cbv
  exact ⟨by exact bp⟩
def BD (k:Nat) (v:Int):Option Int:=if 0<=v/\v < k then some v else none
theorem aoh:(λ_=>none)=BD 0:=by funext v;unfold BD;rw [if_neg (by omega)]
theorem akC (k:Nat):(λj=>if j=(k:Int) then some (k:Int) else BD k j)=BD (k+1):=by
 funext j
 unfold BD
 by_cases h:j=k
 ·rw [if_pos h,if_pos (by omega),h]
 ·rw [if_neg h]
  by_cases h2:0<=j/\j < k
  ·rw [if_pos h2,if_pos (by omega)]
  ·rw [if_neg h2,if_neg (by omega)]
theorem alS (I:Nat) (roots:List Int):BD (2+I)=eP I (roots.take 0):=by
 funext v
 unfold BD eP
 by_cases h:0<=v/\v < 2+(I:Int)
 ·rw [if_pos (by omega),if_pos h]
 ·rw [if_neg (by omega),if_neg h];rfl
theorem akD {I:Nat} {roots:List Int} {i:Nat} {r:Int} (hr:roots[i]?=some r) (hn:roots.Nodup) (fb:2+(I:Int)<=r):(λj=>if j=r then some (2+(I:Int)+i) else eP I (roots.take i) j)=eP I (roots.take (i+1)):=by
 obtain ⟨aP,HM⟩:=bt.1 hr
 have hlen:(roots.take i).length=i:=by rw [iw];omega
 have asu:r∉roots.take i:=λhm=>by
  obtain ⟨j,hj⟩:=nG hm
  rw [ml] at hj
  split at hj
  ·obtain ⟨eo,pQ⟩:=bt.1 hj
   exact rG.1 hn j i eo aP (by assumption) (by rw [pQ,HM])
  ·cases hj
 funext j
 unfold eP
 rw [jR,hr,oQ,List.findIdx?_append]
 by_cases h:j=r
 ·subst h
  have dg:List.findIdx? (λx=>decide (x=j)) (roots.take i)=none:=AM.2 λx hx=>decide_eq_false λe=>asu (by rw [<-e];exact hx)
  rw [if_pos rfl,if_neg (by omega),dg]
  simp [List.findIdx?_cons,hlen]
 ·rw [if_neg h]
  split
  ·rfl
  ·have e:List.findIdx? (λx=>decide (x=j)) [r]=none:=by
    have:¬r=j:=λe=>h e.symm
    simp [List.findIdx?_cons,this]
   rw [e]
   cases List.findIdx? (λx=>decide (x=j)) (roots.take i)<;>rfl
structure asv where
 n:Net
 roots:List Int
structure GD (I:Nat) (roots:List Int):Prop where
 len:roots.length<=1000000
 nd:roots.Nodup
 lo:∀r∈roots,2+(I:Int)<=r
@[reducible] noncomputable def O4:Vc.Spec where
 α:=asv
 args x:=[.agg [.sl 3 jq (λ_=>x.n.ins),.sl 5 kC (λ_=>x.n.aT),.sl 3 jq (λ_=>x.n.outs),.sl 1 bP (λ_=>x.n.bj)],.sl 1 bP (λ_=>x.roots)]
 pre x:=x.n.ins.length<=1000000/\GD x.n.ins.length x.roots
 res x:=.mp (.int .i64) bP (λ_=>eP x.n.ins.length x.roots)
noncomputable def asw (n m:Nat):Ctx:=dH n m [] []
theorem Tp (n m:Nat):CB PP (asw n m):=dK n m trivial trivial
theorem Tq:cR (PP ()) 115 O4:=by
 refine et (Tp 0 0) (fo Tryz.func115) (λa=>⟨⟨λx=>(ve x).1,λx=>(tZ x).1,λx=>(ve x).1,λx=>(df x).1,trivial⟩,λx=>(df x).1,trivial⟩) (λa=>λx=>(df x).1) ?_
 rintro ⟨⟨ins,gs,outs,dr⟩,R⟩ hx
 obtain ⟨hI,zR,EM,xa⟩:ins.length<=1000000/\GD ins.length R:=hx
 obtain ⟨Af,zQ⟩:∃Af:Nat->Int->Option Int,∀k,Af k=BD k:=⟨_,λ_=>rfl⟩
 obtain ⟨Sf,tv⟩:∃Sf:Nat->Int->Option Int,∀i,Sf i=eP ins.length (R.take i):=⟨_,λ_=>rfl⟩
 have BX:(λ_=>none)=Af 0:=by rw [zQ];exact aoh
 have Wg:∀k:Nat,(λj=>if j=(k:Int) then some (k:Int) else Af k j)=Af (k+1):=λk=>by rw [zQ,zQ];exact akC k
 have hAS:Af (2+ins.length)=Sf 0:=by rw [zQ,tv];exact alS _ _
 have Ca:∀(i:Nat) (r:Int),R[i]?=some r->(λj=>if j=r then some (2+(ins.length:Int)+i) else Sf i j)=Sf (i+1):=λi r hr=>by rw [tv,tv];exact akD hr EM (xa r (cB hr))
 have jA:∀i:Nat,R.length<=i->Sf i=eP ins.length R:=λi hi=>by rw [tv,iQ hi]
 obtain ⟨T,hT⟩:∃T,2+ins.length=T:=⟨_,rfl⟩
 have hw:IntKind.i64.wrap (2+(ins.length:Int))=(T:Int):=by rw [dt (by omega) (by omega)];omega
 have sy:∀i:Nat,i<=1000000->IntKind.i64.wrap (IntKind.i64.wrap (2+(ins.length:Int))+(i:Int))=2+(ins.length:Int)+i:=λi hi=>by rw [hw,dt (by omega) (by omega)];omega
 rw [hT] at hAS
 refine ⟨?_⟩
 cbv
 refine Sat.dq (Tp 0 0) 2 6 [] (λk:Nat=>[(13,.i .i64 (λ_=>(T:Int))),(14,.i .i64 (λ_=>(k:Int)))]) (λk=>[(1,.map (.int .i64) bP (λ_=>Af k))]) (λk=>k<=T) (λk=>T - k) 0 (by have bH:=hw;exact bh) (by have uF:=BX;exact bh) (cg _) ?_
 intro k hk
 have hk:k<=T:=hk
 have jd:=dC (i:=k) (by omega)
 have rm:=Wg k
 cbv
 refine ⟨λh=>?_,λh=>?_⟩
 ·have Wj:k < T:=aH
  have bZ:T - (k+1) < T - k:=by omega
  clear h
  cbv
  refine ⟨(k:Int),⟨by exact bp⟩,?_⟩
  cbv
  exact ⟨k+1,by have bH:=jd;exact bh,by have uF:=rm;exact bh,⟨⟨Wj,bZ⟩⟩⟩
 have cG:T<=k:=aH
 have Wj:k=T:=by omega
 subst Wj
 clear h
 cbv
 refine Sat.dq (Tp 0 0) 2 6 [] (λi:Nat=>[(21,.sl 1 bP (λ_=>R)),(22,.i .i64 (λ_=>(R.length:Int))),(23,.i .i64 (λ_=>(i:Int)))]) (λi=>[(1,.map (.int .i64) bP (λ_=>Sf i))]) (λi=>i<=R.length) (λi=>R.length - i) 0 (by exact aM) (by have uF:=hAS;exact bh) (cg _) ?_
 intro i hi
 have hi:i<=R.length:=hi
 have dV:=n0 i
 have e7:=dC (i:=i) (by omega)
 have hx:=sy i (by omega)
 have ux:=Ca i
 obtain ⟨X,hX⟩:∃X,2+(ins.length:Int)+i=X:=⟨_,rfl⟩
 rw [hX] at hx ux
 cbv
 refine ⟨λh=>?_,λh=>?_⟩
 ·have bM:i < R.length:=aH
  have bZ:R.length - (i+1) < R.length - i:=by omega
  refine (bO bM).elim λr hr=>?_
  have zS:=ux r hr
  clear h
  cbv
  refine ⟨r,⟨dV,hr⟩,?_⟩
  cbv
  refine ⟨X,⟨by have bH:=hx;exact bX⟩,?_⟩
  cbv
  exact ⟨i+1,by have bH:=e7;exact bh,by have uF:=zS;exact bh,⟨⟨bM,bZ⟩⟩⟩
 ·have cG:R.length<=i:=aH
  have hf:=jA i cG
  cbv
  exact ⟨by have KY:=hf;exact bX⟩
structure aqr where
 n:Net
 S:List Int
 st:oE
 v:Int
structure ViR where
 res:Bool
 st:oE
abbrev Kl:Unit->List SV:=λ_=>[.bc true]
def ae1 (n:Net) (S:List Int) (st:oE):List Slot:=[.fix 35 [.sl 1 bP (λ_=>S)],.fix 184 [.gF 2],.map (.int .i64) Kl (λ_=>st.rch),.fix 184 [.gF 4],.map (.int .i64) Kl (λ_=>st.ins),.fix 48 (jr n),.fix 180 [.fn (.func 262) [] [.ptr 0 0,.ptr 1 0,.ptr 3 0,.ptr 5 0,.ptr 6 0]]]
structure O5 (n:Net) (S:List Int) (v:Int):Prop where
 G:ca n.ins.length n.aT
 S:S.length<=1000000
 v0:0<=v
 v1:v < 2+n.ins.length+n.aT.length
@[reducible] noncomputable def Wk (k:Nat):pC where
 α:=aqr
 args x:=[.i .i64 (λ_=>x.v),.ptr 0 0,.ptr 1 0,.ptr 3 0,.ptr 5 0,.ptr 6 0]
 io x:=ae1 x.n x.S x.st
 pre x:=O5 x.n x.S x.v/\x.v.toNat<=k
 β:=ViR
 post x y:=oX x.n.ins.length x.n.aT x.S x.st x.v y.res y.st
 mv:=[]
 res x y:=.b (λ_=>y.res)
 mM x y:=ae1 x.n x.S y.st
theorem akE {n:Net} {v:Int} {g:Gate} (h:sR n v=(g,true)):fI n.ins.length n.aT v.toNat=some g/\g.op≠7:=by
 unfold sR at h
 cases hg:fI n.ins.length n.aT v.toNat with
 | none=>rw [hg] at h;cases h
 | some g' =>
  rw [hg] at h
  simp only at h
  split at h
  ·cases h
  ·cases h;exact ⟨rfl,by assumption⟩
theorem alT {n:Net} {v:Int} {g:Gate} (h:sR n v=(g,false)):∀g',fI n.ins.length n.aT v.toNat=some g'->g'.op=7:=λg' hg=>by
 unfold sR at h
 rw [hg] at h
 simp only at h
 split at h
 ·assumption
 ·cases h
noncomputable def cVi (n m:Nat):Ctx:=dH n m [(262,Tryz.f262)] [(263,Oj),(243,UK),(264,aeN)] [262]
theorem adQ (n m:Nat):CB PP (cVi n m):=dK n m ⟨fo Tryz.func262,trivial⟩ ⟨S2,aci,anX,trivial⟩
theorem abD (k:Nat) (ih:∀m,m+1=k->nT PP 262 (Wk m)):nT PP 262 (Wk k):=by
 refine tl (adQ 0 0) (fo Tryz.func262) (λa y=>rfl) (λa=>⟨rfl,rfl⟩) .nil ?_
 rintro ⟨⟨ins,gs,outs,dr⟩,S,⟨Is,Rs⟩,v⟩ hx
 obtain ⟨⟨G,hS,ib,nB⟩,hvk⟩:O5 ⟨ins,gs,outs,dr⟩ S v/\v.toNat<=k:=hx
 have G:ca ins.length gs:=G
 have hS:S.length<=1000000:=hS
 have nB:v < 2+(ins.length:Int)+gs.length:=nB
 have hb:=G.k8
 have pR:S.length<=1000000000000:=by omega
 obtain ⟨g,b,zP⟩:∃g b,sR ⟨ins,gs,outs,dr⟩ v=(g,b):=⟨_,_,rfl⟩
 have w6:ins.length<=1000/\gs.length<=1000/\0<=v/\v < y8 ⟨ins,gs,outs,dr⟩/\sR ⟨ins,gs,outs,dr⟩ v=(g,b):=⟨by omega,by omega,ib,nB,zP⟩
 obtain ⟨O,hO⟩:∃O,cC g=O:=⟨_,rfl⟩
 have hOl:O.length<=3:=by rw [<-hO];exact (xF g).2
 have ae2:(λj=>if j=v then some () else Rs j)=(oE.mk Is (BC Rs v)).rch:=rfl
 have ae3:(λj=>if j=v then some () else Is j)=(oE.mk (BC Is v) Rs).ins:=rfl
 obtain ⟨Ra,hRa⟩:∃Ra,BC Rs v=Ra:=⟨_,rfl⟩
 obtain ⟨Ia,hIa⟩:∃Ia,BC Is v=Ia:=⟨_,rfl⟩
 have ae2:(λj=>if j=v then some () else Rs j)=Ra:=hRa
 have ae3:(λj=>if j=v then some () else Is j)=Ia:=hIa
 refine ⟨?_⟩
 cbv
 refine ⟨⟨S,v⟩,⟨by exact bp,pR⟩,?_⟩
 cbv
 refine ⟨λh=>?_,λh=>?_⟩
 ·have hm:v∈S:=by have h':S.contains v=true:=h.out;simpa using h'
  have cb:oX ins.length gs S ⟨Is,Rs⟩ v true ⟨Is,Ra⟩:=hRa ▸ oX.leaf ib hm
  cbv
  refine ⟨(),⟨by exact bp⟩,?_⟩
  cbv
  exact ⟨⟨true,⟨Is,Ra⟩⟩,[],[],⟨by exact cj,trivial⟩,by have uF:=ae2;exact bh,⟨cb⟩⟩
 have hm:v∉S:=by have h':S.contains v=false:=h.out;simpa using h'
 clear h
 cbv
 refine ⟨λh=>?_,λh=>?_⟩
 ·have aP:v < 2:=aH
  have cb:oX ins.length gs S ⟨Is,Rs⟩ v true ⟨Is,Rs⟩:=.known hm (.inl aP)
  cbv
  exact ⟨⟨true,⟨Is,Rs⟩⟩,[],[],⟨by exact cj,trivial⟩,by exact aM,⟨cb⟩⟩
 have cG:2<=v:=aH
 clear h
 cbv
 refine ⟨none,⟨rfl,λ_=>rfl⟩,?_⟩
 cbv
 refine ⟨λh=>?_,λh=>?_⟩
 ·have dz:(Is v).isSome=true:=h.out
  have cb:oX ins.length gs S ⟨Is,Rs⟩ v true ⟨Is,Rs⟩:=.known hm (.inr dz)
  cbv
  exact ⟨⟨true,⟨Is,Rs⟩⟩,[],[],⟨by exact cj,trivial⟩,by exact aM,⟨cb⟩⟩
 clear h
 cbv
 refine ⟨⟨⟨ins,gs,outs,dr⟩,v,g,b⟩,⟨by exact bp,w6⟩,?_⟩
 cbv
 refine ⟨λh=>?_,λh=>?_⟩
 ·have K8:b=false:=by have h':(!b)=true:=h.out;simpa using h'
  subst K8
  have cb:oX ins.length gs S ⟨Is,Rs⟩ v false ⟨Is,Rs⟩:=.bad cG hm (alT zP)
  cbv
  exact ⟨⟨false,⟨Is,Rs⟩⟩,[],[],⟨by exact cj,trivial⟩,by exact aM,⟨cb⟩⟩
 have mh:b=true:=by have h':(!b)=false:=h.out;simpa using h'
 subst mh
 obtain ⟨hg,h7⟩:=akE zP
 have hg:fI ins.length gs v.toNat=some g:=hg
 have Cc:uq ins.length gs S ⟨Is,Rs⟩ v O 0 ⟨Ia,Rs⟩:=hIa ▸ uq.start cG hm O
 have HN:((v.toNat:Nat):Int)∉S:=by rw [Int.toNat_of_nonneg ib];exact hm
 have B8:∀x∈O,x∈oe ins.length gs S v.toNat:=λx hx=>qk.2 ⟨HN,g,hg,h7,by rw [hO];exact hx⟩
 have jM:∀x∈O,0<=x/\x < v:=λx hx=>by have:=Bb G (B8 x hx);omega
 refine (⟨k - 1,by omega⟩:∃m,m+1=k).elim λm lX=>?_
 have ih:=ih m lX
 clear h
 cbv
 refine ⟨(),⟨by exact bp⟩,?_⟩
 cbv
 refine ⟨⟨g,O⟩,⟨by exact bp,hO⟩,?_⟩
 cbv
 refine Sat.dq (adQ 0 0) 8 6 [] (λy:Nat × oE=>[(37,.sl 1 bP (λ_=>O)),(38,.i .i64 (λ_=>(O.length:Int))),(39,.i .i64 (λ_=>(y.1:Int)))]) (λy=>[(2,.map (.int .i64) Kl (λ_=>y.2.rch)),(4,.map (.int .i64) Kl (λ_=>y.2.ins))]) (λy=>uq ins.length gs S ⟨Is,Rs⟩ v O y.1 y.2) (λy=>O.length - y.1) (0,⟨Ia,Rs⟩) (by exact aM) (by have uF:=ae3;exact bh) Cc ?_
 rintro ⟨j,⟨I2,R2⟩⟩ hJ
 have hJ:uq ins.length gs S ⟨Is,Rs⟩ v O j ⟨I2,R2⟩:=hJ
 have eo:=hJ.le
 have iM:=n0 j
 have j3:=dC (i:=j) (by omega)
 cbv
 refine ⟨λh=>?_,λh=>?_⟩
 rotate_left
 ·have O6:O.length<=j:=aH
  have cb:=hJ.fin O6 hm hg h7 hO.symm
  cbv
  exact ⟨⟨true,⟨I2,R2⟩⟩,[],[],⟨by exact cj,trivial⟩,by exact aM,⟨cb⟩⟩
 have wP:j < O.length:=aH
 have bZ:O.length - (j+1) < O.length - j:=by omega
 refine (bO wP).elim λx hx=>?_
 have pb:=cB hx
 have jc:=jM x pb
 have eD:O5 ⟨ins,gs,outs,dr⟩ S x/\x.toNat<=m:=⟨⟨G,hS,jc.1,Int.lt_trans jc.2 nB⟩,by have:=jc.1;have:=jc.2;omega⟩
 have EN:=B8 x pb
 clear h
 cbv
 refine ⟨x,⟨iM,hx⟩,?_⟩
 cbv
 refine gw.vL ih (λa y=>trivial) ⟨⟨ins,gs,outs,dr⟩,S,⟨I2,R2⟩,x⟩ [0,1,2,3,4,5,6] rfl (by exact bp) (by exact aM) ⟨eD⟩ λy hy=>?_
 obtain ⟨res,⟨I3,R3⟩⟩:=y
 have hy:oX ins.length gs S ⟨I2,R2⟩ x res ⟨I3,R3⟩:=hy.out
 cbv
 refine ⟨λh=>?_,λh=>?_⟩
 ·have hr:res=false:=by have h':(!res)=true:=h.out;simpa using h'
  subst hr
  have cb:=hJ.fail EN hy
  cbv
  exact ⟨⟨false,⟨I3,R3⟩⟩,[],[],⟨by exact cj,trivial⟩,by exact aM,⟨cb⟩⟩
 ·have hr:res=true:=by have h':(!res)=false:=h.out;simpa using h'
  subst hr
  have bS:=hJ.step hx EN hy
  cbv
  exact ⟨(j+1,⟨I3,R3⟩),by have bH:=j3;exact bh,by exact aM,⟨⟨bS,bZ⟩⟩⟩
theorem adR:∀k,nT PP 262 (Wk k)
 | 0=>abD 0 λm h=>by omega
 | k+1=>abD (k+1) λm h=>by
  cases Nat.succ.inj h
  exact adR k
structure vC (root:Int) (S:List Int) (i:Nat):Prop where
 le:i<=S.length
 mem:∀x∈S.take i,2<=x/\x<=root
 inc:dM (S.take i)
theorem vC.start (root:Int) (S:List Int):vC root S 0:=⟨cg _,by simp,by simp⟩
theorem vC.step {root:Int} {S:List Int} {i:Nat} {x:Int} (h:vC root S i) (hx:S[i]?=some x) (h1:2<=x) (h2:x<=root) (h3:∀p,0 < i->S[i - 1]?=some p->p < x):vC root S (i+1):=by
 refine ⟨(bt.1 hx).1,λy hy=>?_,?_⟩
 ·rw [jR,hx] at hy
  rcases dR.1 hy with hy|hy
  ·exact h.mem y hy
  ·simp at hy;subst hy;exact ⟨h1,h2⟩
 ·rw [jR,hx,oQ]
  refine j8.2 ⟨h.inc,by simp,λy hy z hz=>?_⟩
  simp at hz;subst hz
  have hi:0 < i:=by
   rcases AP i with rfl|hi
   ·simp at hy
   ·exact hi
  have aP:=(bt.1 hx).1
  obtain ⟨p,hp⟩:∃p,S[i - 1]?=some p:=⟨_,eI (by omega)⟩
  have PD:=h3 p hi hp
  have kE:=h.inc
  rw [show i=(i - 1)+1 by omega,jR,hp,oQ] at kE hy
  rcases dR.1 hy with hy|hy
  ·have:=(j8.1 kE).2.2 y hy p (by simp);omega
  ·simp at hy;omega
theorem vC.fin {N root:Int} {S:List Int} {i:Nat} (h:vC root S i) (hi:S.length<=i) (h1:2<=root) (h2:root < N) (h3:S.length<=4):sM N root S=true:=by
 have e:S.take i=S:=iQ hi
 have a:=h.mem
 have b:=h.inc
 rw [e] at a b
 exact Ar.2 ⟨h1,h2,h3,a,b⟩
theorem Jl {N root:Int} {S:List Int} (h:¬Bc N root S):sM N root S=false:=by
 cases hb:sM N root S with
 | false=>rfl
 | true=>exact absurd (Ar.1 hb) h
theorem abE {N root:Int} {S:List Int} {i:Nat} {x:Int} (hx:S[i]?=some x) (h:x < 2\/root < x):sM N root S=false:=Jl λL=>by
 have:=L.mem x (cB hx);omega
theorem am5 {N root:Int} {S:List Int} {i:Nat} {x p:Int} (hi:0 < i) (hx:S[i]?=some x) (hp:S[i - 1]?=some p) (h:x<=p):sM N root S=false:=Jl λL=>by
 obtain ⟨h1,e1⟩:=bt.1 hx
 obtain ⟨h2,e2⟩:=bt.1 hp
 have:=rG.1 L.inc (i - 1) i h2 h1 (by omega)
 omega
theorem am6 {l m:List Int} (hm:dM m) (hn:l.Nodup) (h:∀u,u∈l↔u∈m):s5 l=m:=by
 have hp:(s5 l).Perm l:=List.mergeSort_perm l _
 have hs:(s5 l).Pairwise (·<=·):=by
  have:=YU (le:=λx y:Int=>decide (x<=y)) (λa b c h1 h2=>by simp only [decide_eq_true_eq] at *;omega) (λa b=>by simp only [px,decide_eq_true_eq];omega) l
  unfold s5
  simpa using this
 have gC:(s5 l).Nodup:=hp.nodup_iff.2 hn
 have hi:dM (s5 l):=(Rm.2 ⟨hs,gC⟩).imp λ⟨a,b⟩=>by omega
 exact hi.ext hm λu=>hp.mem_iff.trans (h u)
structure aoi (S:List Int) (rch:Int->Option Unit) (ks:List Int):Prop where
 nd:ks.Nodup
 mem:∀n,n∈ks↔(rch n).isSome=true
theorem aoj {S:List Int} {rch:Int->Option Unit} (hS:S.Nodup) (h:∀u,(rch u).isSome=true->u∈S):aoi S rch (S.filter λx=>(rch x).isSome) :=
 ⟨hS.filter _,λn=>by rw [mW];exact ⟨λa=>a.2,λa=>⟨h n a,a⟩⟩⟩
theorem filter_lt {A:Type} {f:A->Bool}:∀{l:List A},(l.filter f).length < l.length->∃x∈l,f x=false
 | [],h=>by simp at h
 | x :: l,h=>by
  cases hf:f x with
  | false=>exact ⟨x,by simp,hf⟩
  | true =>
   rw [MF hf,qd,qd] at h
   obtain ⟨y,hy,e⟩:=filter_lt (Nat.lt_of_succ_lt_succ h)
   exact ⟨y,by simp [hy],e⟩
theorem akF {A:Type} {f:A->Bool} {l:List A} (h:l.length<=(l.filter f).length):∀x∈l,f x=true:=by
 have:=List.Sublist.eq_of_length_le (List.filter_sublist (p:=f) (l:=l)) h
 intro x hx
 rw [<-this] at hx
 exact (mW.1 hx).2
structure asx where
 n:Net
 root:Int
 S:List Int
 out:Option (List Int)
structure O7 (n:Net) (root:Int) (S:List Int) (out:Option (List Int)):Prop where
 G:ca n.ins.length n.aT
 e6:S.length<=1000000
 eq:eC n.ins.length n.aT root S=out
@[reducible] noncomputable def ae4:Vc.Spec where
 α:=asx
 args x:=[.agg (jr x.n),.i .i64 (λ_=>x.root),.sl 1 bP (λ_=>x.S)]
 pre x:=O7 x.n x.root x.S x.out
 res x:=match x.out with
  | some l=>.cS [.sl 1 bP (λ_=>l),.bc true]
  | none=>.cS [.cW,.bc false]
noncomputable def asy (n m:Nat):Ctx:=dH n m [] []
theorem aok (n m:Nat):CB PP (asy n m):=dK n m trivial trivial
noncomputable def asz (n m:Nat):Ctx:=dH n m [(262,Tryz.f262),(265,Tryz.f265)] [(261,aeM)] [262,265] [] [15]
theorem Tr (n m:Nat):CB PP (asz n m):=dK n m ⟨fo Tryz.func262,fo Tryz.func265,trivial⟩ ⟨anW,trivial⟩
theorem aol:cR (PP ()) 241 ae4:=by
 refine et (Tr 0 0) (fo Tryz.func241) (λa=>⟨mu a.n,trivial,λx=>(df x).1,trivial⟩) (λa=>by rcases a with ⟨n,r,S,_|l⟩<;>first|exact ⟨trivial,trivial,trivial⟩|exact ⟨λx=>(df x).1,trivial,trivial⟩) ?_
 rintro ⟨⟨ins,gs,outs,dr⟩,root,S,out⟩ hx
 obtain ⟨G,hS,cb⟩:O7 ⟨ins,gs,outs,dr⟩ root S out:=hx
 have G:ca ins.length gs:=G
 have cb:eC ins.length gs root S=out:=cb
 have hb:=G.k8
 have w6:ins.length<=1000/\gs.length<=1000:=by omega
 obtain ⟨N,hN⟩:∃N:Int,y8 ⟨ins,gs,outs,dr⟩=N:=⟨_,rfl⟩
 have K9:N=2+(ins.length:Int)+gs.length:=hN.symm
 have hNi:∀r:Int,r < N->r < 2+(ins.length:Int)+gs.length:=λr h=>by omega
 have hN6:∀r:Int,r < N->r < 600:=λr h=>by omega
 have hNe:∀R S,sM N R S=true->sM (2+(ins.length:Int)+gs.length) R S=true:=λR S h=>by rw [<-K9];exact h
 have dg:sM N root S=false->out=none:=λh=>by rw [K9] at h;rw [<-cb];exact aiU h
 refine ⟨?_⟩
 cbv
 refine ⟨λh=>?_,λh=>?_⟩
 ·have fb:root < 2:=aH
  obtain rfl:=dg (Jl λL=>by have:=L.lo;omega)
  cbv
  exact ⟨by exact bp⟩
 have fb:2<=root:=aH
 clear h
 cbv
 refine ⟨⟨ins,gs,outs,dr⟩,⟨by exact bp,w6⟩,?_⟩
 cbv
 refine ⟨λh=>?_,λh=>?_⟩
 ·have kN:y8 ⟨ins,gs,outs,dr⟩<=root:=aH
  obtain rfl:=dg (Jl λL=>by have:=L.hi;omega)
  cbv
  exact ⟨by exact bp⟩
 have kN:root < y8 ⟨ins,gs,outs,dr⟩:=aH
 have kN:root < N:=by omega
 clear h
 cbv
 refine ⟨λh=>?_,λh=>?_⟩
 ·have h4:(4:Int) < (S.length:Int):=aH
  have h4:4 < S.length:=by exact cx
  obtain rfl:=dg (Jl λL=>by have:=L.len;omega)
  cbv
  exact ⟨by exact bp⟩
 have h4:(S.length:Int)<=4:=aH
 have h4:S.length<=4:=by exact cx
 have Cc:=vC.start root S
 clear h
 cbv
 refine Sat.dq (Tr 0 0) 2 8 [] (λi:Nat=>[(28,.sl 1 bP (λ_=>S)),(29,.i .i64 (λ_=>(S.length:Int))),(30,.i .i64 (λ_=>(i:Int)))]) (λ_=>[]) (λi=>vC root S i) (λi=>S.length - i) 0 (by exact aM) (by exact aM) Cc ?_
 intro i hJ
 have hJ:vC root S i:=hJ
 have bM:=hJ.le
 have dV:=n0 i
 have e7:=dC (i:=i) (by omega)
 cbv
 refine ⟨λh=>?_,λh=>?_⟩
 ·have tu:i < S.length:=aH
  have bZ:S.length - (i+1) < S.length - i:=by omega
  refine (bO tu).elim λx hx=>?_
  clear h
  cbv
  refine ⟨x,⟨dV,hx⟩,?_⟩
  cbv
  refine ⟨λh=>?_,λh=>?_⟩
  ·have iK:x < 2:=aH
   obtain rfl:=dg (abE hx (.inl iK))
   cbv
   exact ⟨by exact bp⟩
  have iK:2<=x:=aH
  clear h
  cbv
  refine ⟨λh=>?_,λh=>?_⟩
  ·have xe:root < x:=aH
   obtain rfl:=dg (abE hx (.inr xe))
   cbv
   exact ⟨by exact bp⟩
  have xe:x<=root:=aH
  clear h
  cbv
  refine ⟨λh=>?_,λh=>?_⟩
  ·have Wl:(0:Int) < (i:Int):=aH
   have Wl:0 < i:=by exact cx
   refine (bO (l:=S) (i:=i - 1) (by omega)).elim λp hp=>?_
   have hwp:IntKind.i64.wrap ((i:Int) - 1)=((i - 1:Nat):Int):=by rw [dt (by omega) (by omega)];omega
   have hpn:0<=IntKind.i64.wrap ((i:Int) - 1)/\S[(IntKind.i64.wrap ((i:Int) - 1)).toNat]?=some p:=by rw [hwp];exact ⟨n0 _,hp⟩
   clear h
   cbv
   refine ⟨p,⟨hpn⟩,?_⟩
   cbv
   refine ⟨λh=>?_,λh=>?_⟩
   ·have Wm:x<=p:=aH
    obtain rfl:=dg (am5 Wl hx hp Wm)
    cbv
    exact ⟨by exact bp⟩
   ·have Wm:p < x:=aH
    have gy:vC root S (i+1)/\S.length - (i+1) < S.length - i:=⟨hJ.step hx iK xe λq _ hq=>by rw [hp] at hq;cases hq;exact Wm,bZ⟩
    cbv
    exact ⟨i+1,by have bH:=e7;exact bh,by exact aM,⟨gy⟩⟩
  ·have Wl:(i:Int)<=0:=aH
   have gy:vC root S (i+1)/\S.length - (i+1) < S.length - i:=⟨hJ.step hx iK xe λq hq _=>by exfalso;exact cx,bZ⟩
   cbv
   exact ⟨i+1,by have bH:=e7;exact bh,by exact aM,⟨gy⟩⟩
 have cG:S.length<=i:=aH
 have Cd:sM (2+(ins.length:Int)+gs.length) root S=true:=hNe _ _ (hJ.fin cG fb kN h4)
 have Ca:S.Nodup:=(Ar.1 Cd).inc.nodup
 have hSm:=(Ar.1 Cd).mem
 have La:O5 ⟨ins,gs,outs,dr⟩ S root/\root.toNat<=root.toNat:=⟨⟨G,hS,AA (by decide) fb,hNi root kN⟩,fq _⟩
 clear h
 cbv
 refine gw.vL (adR root.toNat) (λa y=>trivial) ⟨⟨ins,gs,outs,dr⟩,S,⟨λ_=>none,λ_=>none⟩,root⟩ [1,5,3,4,2,0,6] rfl (by exact bp) (by exact aM) ⟨La⟩ λy hy=>?_
 obtain ⟨res,⟨Is,Rs⟩⟩:=y
 have hy:oX ins.length gs S ⟨λ_=>none,λ_=>none⟩ root res ⟨Is,Rs⟩:=hy.out
 cbv
 refine ⟨λh=>?_,λh=>?_⟩
 ·have hr:res=false:=by have h':(!res)=true:=h.out;simpa using h'
  subst hr
  obtain ⟨w,mK,pc⟩:=hy.no rfl
  obtain rfl:out=none:=by rw [<-cb];exact alr G mK pc
  cbv
  exact ⟨by exact bp⟩
 have hr:res=true:=by have h':(!res)=false:=h.out;simpa using h'
 subst hr
 have hC:=Og.of G fb hy
 have ya:=aoj (rch:=Rs) Ca (λu hu=>((hC.rch u).1 hu).2.2)
 have aP:=@filter_lt _ (λx=>(Rs x).isSome) S
 have cG:=@akF _ (λx=>(Rs x).isSome) S
 obtain ⟨ks,hk⟩:∃ks,S.filter (λx=>(Rs x).isSome)=ks:=⟨_,rfl⟩
 rw [hk] at ya aP cG
 have TZ:∀x∈S,(Rs x).isSome=false->out=none:=λx hx hf=>by
  rw [<-cb]
  refine akp G hx λhr=>?_
  have:=(hC.rch x).2 ⟨by have:=hSm x hx;omega,hr,hx⟩
  rw [hf] at this;cases this
 have eZ:(∀x∈S,(Rs x).isSome=true)->∃l,out=some l/\dM l/\∀u:Int,u∈l↔(Is u).isSome=true:=λha=>by
  obtain ⟨l,h1,h2,h3⟩:=akq G Cd hC λx hx=>((hC.rch x).1 (ha x hx)).2.1
  exact ⟨l,by rw [<-cb];exact h1,h2,h3⟩
 have hkn:ks.Nodup/\∀n,n∈ks↔(Rs n).isSome=true:=⟨ya.nd,ya.mem⟩
 clear h
 cbv
 refine ⟨ks,⟨hkn⟩,?_⟩
 cbv
 refine ⟨λh=>?_,λh=>?_⟩
 ·have hl:ks.length < S.length:=aH
  obtain ⟨x,hx,hf⟩:=aP hl
  obtain rfl:=TZ x hx hf
  cbv
  exact ⟨by exact bp⟩
 have hl:S.length<=ks.length:=aH
 obtain ⟨l,rfl,HO,zT⟩:=eZ (cG hl)
 clear h
 cbv
 refine Sat.freeze 2 rfl rfl ?_
 refine Sat.j2 (aok 0 0) ?_
 cbv
 refine Sat.DK 13 3 1 xN df rfl ?_
 cbv
 have hlen:l.length<=1000000:=by
  have h1:l.length<=(List.range (root.toNat+1)).length:=by
   have h2:(l.map Int.toNat).Nodup:=by
    refine (rJ.2 ((Rm.2 ⟨HO,YO (r:=λa b=>0<=a/\0<=b) λa ha b hb=>?_⟩).imp λ⟨a,b⟩=>by omega))
    have h3:=((hC.ins a).1 ((zT a).1 ha)).1
    have h4:=((hC.ins b).1 ((zT b).1 hb)).1
    omega
   have:=C3 h2 (l₂:=List.range (root.toNat+1)) λw hw=>by
    obtain ⟨u,hu,rfl⟩:=jS.1 hw
    have h3:=((hC.ins u).1 ((zT u).1 hu)).2.1
    have:=gM.le G h3
    exact mX.2 (by omega)
   rwa [iR] at this
  rw [IT] at h1
  have:=hN6 root kN
  omega
 refine Sat.dq (Tr 0 0) 9 8 [(.t 13,8)] (λ_:List Int=>[(13,.own 8),(71,.ptr 7 0)]) (λsn=>[(7,.iter (.int .i64) Kl (λ_=>Is) (λ_=>sn) none),(8,.dyn 3 1 bP (λ_=>sn))]) (λsn=>(∀n∈sn,n∈l)/\sn.Nodup) (λsn=>l.length - sn.length) [] (by exact aM) (by exact aM) ⟨λn hn=>(by cases hn),Az⟩ ?_
 rintro sn ⟨ux,zS⟩
 have ux:∀n∈sn,n∈l:=ux
 have zS:sn.Nodup:=zS
 have gR:sn.length<=l.length:=C3 zS ux
 cbv
 refine ⟨λh=>?_,λn t h=>?_⟩
 ·have hov:∀n t,Is n=some t->n∈sn:=h.out
  have HP:s5 sn=l:=am6 HO zS λu=>⟨ux u,λhu=>by
   have:=(zT u).1 hu
   cases hq:Is u with
   | none=>rw [hq] at this;cases this
   | some t=>exact hov u t hq⟩
  have Ev:sn.length < 4611686018427387904:=by omega
  clear h
  cbv
  refine gw.vL Tm (λa y=>trivial) sn [8] rfl (by exact bp) (by exact aM) ⟨Ev⟩ λy _=>?_
  cbv
  exact ⟨by have gS:=HP;exact bX⟩
 ·obtain ⟨g1,g2⟩:Is n=some t/\n∉sn:=h.out
  have qE:n∈l:=(zT n).2 (by rw [g1];rfl)
  have gC:(sn++[n]).Nodup:=MM.2 ⟨zS,by simp,λa ha b hb e=>by simp at hb;subst hb;subst e;exact g2 ha⟩
  have hms:∀q∈sn++[n],q∈l:=λq hq=>by
   rcases dR.1 hq with hq|hq
   ·exact ux q hq
   ·simp at hq;subst hq;exact qE
  have nk:(sn++[n]).length<=l.length:=C3 gC hms
  have Hm:(sn++[n]).length=sn.length+1:=by simp
  have b1:(sn.length+1)*8<=140737488355328:=by omega
  have b2:sn.length+1<=9223372036854775807:=by omega
  have gy:((∀q∈sn++[n],q∈l)/\(sn++[n]).Nodup)/\l.length - (sn++[n]).length < l.length - sn.length:=⟨⟨hms,gC⟩,by omega⟩
  clear h
  cbv
  refine ⟨[n],⟨by exact bp,b1,b2⟩,?_⟩
  cbv
  exact ⟨sn++[n],by exact aM,by exact bh,⟨gy⟩⟩
theorem akG {o A B C A' B' C':Int} (hA:A=A') (hB:2<=jz o->B=B') (hC:3<=jz o->C=C'):combineM o A B C=combineM o A' B' C':=by
 subst hA
 unfold jz at hB hC
 unfold combineM
 by_cases h1:o=1
 ·rw [if_pos h1,if_pos h1]
 ·rw [if_neg h1,if_neg h1]
  rw [if_neg h1] at hB hC
  by_cases h2:o=2\/o=3\/o=4
  ·rw [if_pos h2] at hB
   rw [hB (fq _)]
   rcases h2 with h|h|h<;>subst h<;>simp
  ·rw [if_neg h2] at hB hC
   rw [hB (by omega),hC (by omega)]
theorem aaB {I:Nat} {gs:List Gate} {S:List Int} (hn:S.Nodup) {i:Nat} {x:Int} (hx:S[i]?=some x) (h0:0<=x):fX I gs S x.toNat=wA i:=by
 obtain ⟨aP,lW⟩:=bt.1 hx
 have h:S.findIdx? (λy=>decide (y=((x.toNat:Nat):Int)))=some i:=by
  rw [FW]
  refine ⟨aP,by rw [lW];simp;omega,λj hj=>?_⟩
  have:=rG.1 hn j i (by omega) aP hj
  simp only [Bool.not_eq_true,decide_eq_false_iff_not]
  rw [Int.toNat_of_nonneg h0,<-lW];exact this
 rw [Nk]
 unfold Gx
 rw [h]
theorem acB {S:List Int} {v:Nat} (h:(v:Int)∉S):S.findIdx? (λy=>decide (y=(v:Int)))=none:=by
 rw [AM]
 intro x hx
 exact decide_eq_false λe=>h (e ▸ hx)
theorem adS {I:Nat} {gs:List Gate} {S:List Int} (h:∀x∈S,2<=x):fX I gs S 0=0:=by
 rw [Nk];unfold Gx
 have hg:fI I gs 0=none:=by unfold fI;rw [if_pos (by omega)]
 rw [acB λhm=>by have:=h _ hm;omega]
 simp only [hg]
 rfl
theorem adT {I:Nat} {gs:List Gate} {S:List Int} (h:∀x∈S,2<=x):fX I gs S 1=-1:=by
 rw [Nk];unfold Gx
 rw [acB λhm=>by have:=h _ hm;omega]
 rfl
def wQ (m:Int->Option Int) (v t:Int):Int->Option Int:=λj=>if j=v then some t else m j
theorem S4 (m:Int->Option Int) (v t:Int):wQ m v t v=some t:=by unfold wQ;rw [if_pos rfl]
theorem Dq {m:Int->Option Int} {v t u:Int} (h:u≠v):wQ m v t u=m u:=by unfold wQ;rw [if_neg h]
structure xf (S:List Int) (j:Nat) (m:Int->Option Int):Prop where
 le:j<=S.length
 zero:m 0=some 0
 one:m 1=some (-1)
 leaf:∀i x,i < j->S[i]?=some x->m x=some (wA i)
theorem xf.step {S:List Int} {j:Nat} {m:Int->Option Int} (h:xf S j m) (hn:S.Nodup) (h2:∀x∈S,2<=x) {x:Int} (hx:S[j]?=some x):xf S (j+1) (wQ m x (wA j)):=by
 have iK:=h2 x (cB hx)
 obtain ⟨aP,jL⟩:=bt.1 hx
 refine ⟨aP,by rw [Dq (by omega)];exact h.zero,by rw [Dq (by omega)];exact h.one,λi y hi hy=>?_⟩
 by_cases e:i=j
 ·subst e;rw [hx] at hy;cases hy;exact S4 _ _ _
 ·obtain ⟨bM,hyi⟩:=bt.1 hy
  have:=rG.1 hn i j bM aP (by omega)
  rw [Dq (by rw [<-hyi,<-jL];exact this)]
  exact h.leaf i y (by omega) hy
structure qG (I:Nat) (gs:List Gate) (S l:List Int) (i:Nat) (m:Int->Option Int):Prop where
 le:i<=l.length
 lo:∀u:Int,0<=u->u < 2->m u=some (fX I gs S u.toNat)
 leaf:∀u∈S,m u=some (fX I gs S u.toNat)
 nd:∀u∈l.take i,m u=some (fX I gs S u.toNat)
theorem xf.fin {I:Nat} {gs:List Gate} {S:List Int} {j:Nat} {m:Int->Option Int} (h:xf S j m) (hj:S.length<=j) (hn:S.Nodup) (h2:∀x∈S,2<=x) (l:List Int):qG I gs S l 0 m:=by
 refine ⟨cg _,λu h0 h1=>?_,λu hu=>?_,by simp⟩
 ·rcases (by omega:u=0\/u=1) with rfl|rfl
  ·rw [h.zero];exact congrArg some (adS h2).symm
  ·rw [h.one];exact congrArg some (adT h2).symm
 ·obtain ⟨i,hi⟩:=nG hu
  rw [h.leaf i u (by have:=(bt.1 hi).1;omega) hi,aaB hn hi (by have:=h2 u hu;omega)]
theorem qG.step {I:Nat} {gs:List Gate} {S l:List Int} {i:Nat} {m:Int->Option Int} (h:qG I gs S l i m) {v:Int} (hv:l[i]?=some v) (h2:2<=v) (hm:v∉S):qG I gs S l (i+1) (wQ m v (fX I gs S v.toNat)):=by
 refine ⟨(bt.1 hv).1,λu h0 h1=>by rw [Dq (by omega)];exact h.lo u h0 h1,λu hu=>by rw [Dq λe=>hm (by rw [<-e];exact hu)];exact h.leaf u hu,λu hu=>?_⟩
 by_cases e:u=v
 ·subst e;exact S4 _ _ _
 ·rw [Dq e]
  rw [jR,hv] at hu
  rcases dR.1 hu with hu|hu
  ·exact h.nd u hu
  ·simp at hu;exact absurd hu e
theorem qG.op {I:Nat} {gs:List Gate} (G:ca I gs) {S l:List Int} {root:Int} (hc:eC I gs root S=some l) {i:Nat} {m:Int->Option Int} (h:qG I gs S l i m) {v:Int} (hv:l[i]?=some v) {g:Gate} (hg:fI I gs v.toNat=some g) (h7:g.op≠7) {o:Int} (ho:o∈cC g):m o=some (fX I gs S o.toNat):=by
 obtain ⟨kE,gk⟩:=AK G hc
 obtain ⟨nv,yw,HN⟩:=(gk v).1 (cB hv)
 have EO:((v.toNat:Nat):Int)=v:=Int.toNat_of_nonneg (by omega)
 have hon:o∈oe I gs S v.toNat:=qk.2 ⟨by rw [EO];exact HN,g,hg,h7,ho⟩
 have aP:=Bb G hon
 by_cases h1:o < 2
 ·exact h.lo o aP.1 h1
 ·by_cases h2:o∈S
  ·exact h.leaf o h2
  ·have fu:o∈l:=(gk o).2 ⟨by omega,.step yw hon,h2⟩
   obtain ⟨j,hj⟩:=nG fu
   obtain ⟨eo,pQ⟩:=bt.1 hj
   obtain ⟨bM,nt⟩:=bt.1 hv
   have oh:j < i:=by
    rcases ML j i with q|q|q
    ·exact q
    ·subst q;rw [pQ] at nt;omega
    ·have:=rG.1 kE i j bM eo q;omega
   refine h.nd o (cB (i:=j) ?_)
   rw [ml,if_pos oh];exact hj
theorem As {I:Nat} {gs:List Gate} {S l:List Int} {root:Int} (h:eC I gs root S=some l):Bc (2+I+gs.length) root S:=by
 unfold eC at h
 split at h
 ·exact Ar.1 (by assumption)
 ·cases h
theorem Zw {I:Nat} {gs:List Gate} (G:ca I gs) {S l:List Int} {root:Int} (h:eC I gs root S=some l):root∈S\/root∈l:=by
 have hL:=As h
 by_cases hm:root∈S
 ·exact .inl hm
 ·exact .inr (((AK G h).2 root).2 ⟨hL.lo,.base rfl,hm⟩)
theorem T0 (g:Gate):g.a∈cC g:=by unfold cC jz;split<;>(try split)<;>simp
theorem T2 {g:Gate} (h:2<=jz g.op):g.b∈cC g:=by
 unfold cC jz at *
 split at h
 ·omega
 ·split at h<;>simp_all
theorem T3 {g:Gate} (h:3<=jz g.op):g.c∈cC g:=by
 unfold cC jz at *
 split at h
 ·omega
 ·split at h
  ·omega
  ·simp_all
theorem aaC {I:Nat} {gs:List Gate} (G:ca I gs) {S l:List Int} {root:Int} (h:eC I gs root S=some l):l.length<=600:=by
 have hL:=As h
 have hb:=G.k8
 have h1:=hL.lo
 have h2:=hL.hi
 unfold eC at h
 split at h
 ·simp only at h
  split at h
  ·cases h
   rw [iR]
   refine oR (FD _ _) ?_
   rw [IT];omega
  ·cases h
 ·cases h
theorem Zx {I:Nat} {gs:List Gate} (G:ca I gs) {S l:List Int} {root:Int} (h:eC I gs root S=some l) {v:Int} (hv:v∈l):∃g,fI I gs v.toNat=some g/\g.op≠7:=by
 obtain ⟨h2,hr,hS⟩:=((AK G h).2 v).1 hv
 have EO:((v.toNat:Nat):Int)=v:=Int.toNat_of_nonneg (by omega)
 unfold eC at h
 split at h
 ·simp only at h
  split at h
  ·rename_i eZ
   simp only [cQ] at eZ
   have:=jo.1 eZ.1 v.toNat (mX.2 (by have:=gM.le G hr;omega))
   rw [(wg G).2 hr] at this
   rcases uZ.1 (by simpa using this) with q|q|q
   ·rw [EO] at q;exact absurd q hS
   ·omega
   ·exact q
  ·cases h
 ·cases h
structure asA where
 n:Net
 root:Int
 S:List Int
 t:Int
 e:Int
structure US (n:Net) (root:Int) (S:List Int) (t e:Int):Prop where
 G:ca n.ins.length n.aT
 e6:S.length<=1000000
 eq:nU n.ins.length n.aT root S=(t,e)
@[reducible] noncomputable def ae5:Vc.Spec where
 α:=asA
 args x:=[.agg (jr x.n),.i .i64 (λ_=>x.root),.sl 1 bP (λ_=>x.S)]
 pre x:=US x.n x.root x.S x.t x.e
 res x:=.cS [.i .i64 (λ_=>x.t),.i .i64 (λ_=>x.e)]
noncomputable def asB (n m:Nat):Ctx:=dH n m [] [(241,ae4),(243,UK),(242,aeP),(244,aeQ)]
theorem Ts (n m:Nat):CB PP (asB n m):=dK n m trivial ⟨aol,aci,anZ,an0,trivial⟩
theorem aom:cR (PP ()) 187 ae5:=by
 refine et (Ts 0 0) (fo Tryz.func187) (λa=>⟨mu a.n,trivial,λx=>(df x).1,trivial⟩) (λa=>⟨trivial,trivial,trivial⟩) ?_
 rintro ⟨⟨ins,gs,outs,dr⟩,root,S,t,e⟩ hx
 obtain ⟨G,hS,vN⟩:US ⟨ins,gs,outs,dr⟩ root S t e:=hx
 have G:ca ins.length gs:=G
 have vN:nU ins.length gs root S=(t,e):=vN
 have hb:=G.k8
 rcases hc:eC ins.length gs root S with _|l
 ·have BY:O7 ⟨ins,gs,outs,dr⟩ root S none:=⟨G,hS,hc⟩
  unfold nU at vN
  rw [hc] at vN
  cases vN
  refine ⟨?_⟩
  cbv
  refine ⟨⟨⟨ins,gs,outs,dr⟩,root,S,none⟩,⟨by exact bp,BY⟩,?_⟩
  cbv
  exact ⟨by exact bp⟩
 have BY:O7 ⟨ins,gs,outs,dr⟩ root S (some l):=⟨G,hS,hc⟩
 have hL:=As hc
 have Ca:=hL.inc.nodup
 have pR:∀x∈S,2<=x:=λx hx=>(hL.mem x hx).1
 have hS4:=hL.len
 obtain ⟨kE,gk⟩:=AK G hc
 have kP:=aaC G hc
 have hgN:∀v:Int,0<=v->∀g,fI ins.length gs v.toNat=some g->v < y8 ⟨ins,gs,outs,dr⟩:=λv h0 g hg=>by
  obtain ⟨i,hi,jX⟩:=lL.1 hg
  have:=(bt.1 jX).1
  show v < 2+(ins.length:Int)+gs.length
  omega
 refine ⟨?_⟩
 cbv
 refine ⟨⟨⟨ins,gs,outs,dr⟩,root,S,some l⟩,⟨by exact bp,BY⟩,?_⟩
 cbv
 refine ⟨0,⟨by exact bp⟩,?_⟩
 cbv
 refine ⟨-1,⟨by exact bp⟩,?_⟩
 cbv
 refine Sat.dq (Ts 0 0) 2 11 [] (λy:Nat × (Int->Option Int)=>[(28,.sl 1 bP (λ_=>S)),(29,.i .i64 (λ_=>(S.length:Int))),(30,.i .i64 (λ_=>(y.1:Int)))]) (λy=>[(1,.map (.int .i64) bP (λ_=>y.2))]) (λy=>xf S y.1 y.2) (λy=>S.length - y.1) (0,wQ (wQ (λ_=>none) 0 0) 1 (-1)) (by exact aM) (by exact aM) ⟨cg _,rfl,rfl,λi x h=>absurd h (qf _)⟩ ?_
 rintro ⟨j,m⟩ hJ
 have hJ:xf S j m:=hJ
 have eo:=hJ.le
 have iM:=n0 j
 have j3:=dC (i:=j) (by omega)
 cbv
 refine ⟨λh=>?_,λh=>?_⟩
 ·have td:j < S.length:=aH
  have bZ:S.length - (j+1) < S.length - j:=by omega
  refine (bO td).elim λx hx=>?_
  have Wn:j < 4:=by omega
  obtain ⟨C,hC⟩:∃C,wA j=C:=⟨_,rfl⟩
  have bS:=hJ.step Ca pR hx
  rw [hC] at bS
  obtain ⟨m2,nr⟩:∃m2,wQ m x C=m2:=⟨_,rfl⟩
  rw [nr] at bS
  have Ce:(λk=>if k=x then some C else m k)=m2:=nr
  clear h
  cbv
  refine ⟨x,⟨iM,hx⟩,?_⟩
  cbv
  refine ⟨j,⟨by exact bp,Wn⟩,?_⟩
  cbv
  refine ⟨C,⟨by have bH:=hC;exact bX⟩,?_⟩
  cbv
  exact ⟨(j+1,m2),by have bH:=j3;exact bh,by have uF:=Ce;exact bh,⟨⟨bS,bZ⟩⟩⟩
 have cG:S.length<=j:=aH
 have hT0:=hJ.fin (I:=ins.length) (gs:=gs) cG Ca pR l
 clear h iM j3
 cbv
 refine Sat.dq (Ts 0 0) 2 11 [] (λy:Nat × (Int->Option Int)=>[(40,.sl 1 bP (λ_=>l)),(41,.i .i64 (λ_=>(l.length:Int))),(42,.i .i64 (λ_=>(y.1:Int)))]) (λy=>[(1,.map (.int .i64) bP (λ_=>y.2))]) (λy=>qG ins.length gs S l y.1 y.2) (λy=>l.length - y.1) (0,m) (by exact aM) (by exact aM) hT0 ?_
 rintro ⟨i,m⟩ hT
 have hT:qG ins.length gs S l i m:=hT
 have bM:=hT.le
 have dV:=n0 i
 cbv
 refine ⟨λh=>?_,λh=>?_⟩
 ·have tu:i < l.length:=aH
  have bZ:l.length - (i+1) < l.length - i:=by omega
  refine (bO tu).elim λv hv=>?_
  obtain ⟨nv,yw,HN⟩:=(gk v).1 (cB hv)
  obtain ⟨g,hg,h7⟩:=Zx G hc (cB hv)
  have ib:0<=v:=AA (by decide) nv
  have ia:sR ⟨ins,gs,outs,dr⟩ v=(g,true):=by
   unfold sR
   rw [show fI (Net.mk ins gs outs dr).ins.length (Net.mk ins gs outs dr).aT v.toNat=some g from hg]
   simp only [if_neg h7]
  have w6:ins.length<=1000/\gs.length<=1000/\0<=v/\v < y8 ⟨ins,gs,outs,dr⟩/\sR ⟨ins,gs,outs,dr⟩ v=(g,true):=⟨by omega,by omega,ib,hgN v ib g hg,ia⟩
  have fC:∀o∈cC g,m o=some (fX ins.length gs S o.toNat):=λo ho=>hT.op G hc hv hg h7 ho
  have hA:=fC g.a (T0 g)
  obtain ⟨ta,VI⟩:∃ta,fX ins.length gs S g.a.toNat=ta:=⟨_,rfl⟩
  obtain ⟨R,hR⟩:∃R,fX ins.length gs S v.toNat=R:=⟨_,rfl⟩
  have Oo:∀B C,(∀t,m g.b=some t->B=t)->(∀t,m g.c=some t->C=t)->combineM g.op ta B C=R:=λB C hB hC=>by
   rw [<-hR,R0 G (by rw [Int.toNat_of_nonneg ib];exact HN) hg]
   exact akG VI.symm (λh=>hB _ (fC _ (T2 h))) (λh=>hC _ (fC _ (T3 h)))
  have bS:=hT.step hv nv HN
  rw [VI] at hA
  rw [hR] at bS
  obtain ⟨m2,nr⟩:∃m2,wQ m v R=m2:=⟨_,rfl⟩
  rw [nr] at bS
  have Ce:(λk=>if k=v then some R else m k)=m2:=nr
  have e7:=dC (i:=i) (by omega)
  have gy:qG ins.length gs S l (i+1) m2/\l.length - (i+1) < l.length - i:=⟨bS,bZ⟩
  clear h
  rcases hB:m g.b with _|tb<;>rcases hC:m g.c with _|tc
  ·have mJ:=Oo 0 0 (λt h=>by rw [hB] at h;cases h) (λt h=>by rw [hC] at h;cases h)
   cbv
   refine ⟨v,⟨dV,hv⟩,?_⟩
   cbv
   refine ⟨⟨⟨ins,gs,outs,dr⟩,v,g,true⟩,⟨by exact bp,w6⟩,?_⟩
   cbv
   refine ⟨some (some ta),⟨hA⟩,?_⟩
   cbv
   refine ⟨some none,⟨hB⟩,?_⟩
   cbv
   refine ⟨some none,⟨hC⟩,?_⟩
   cbv
   refine ⟨⟨g.op,ta,0,0,R⟩,⟨by exact bp,mJ⟩,?_⟩
   cbv
   refine ⟨R,⟨by exact bp⟩,?_⟩
   cbv
   exact ⟨(i+1,m2),by have bH:=e7;exact bh,by have uF:=Ce;exact bh,⟨gy⟩⟩
  ·have mJ:=Oo 0 tc (λt h=>by rw [hB] at h;cases h) (λt h=>by rw [hC] at h;cases h;rfl)
   cbv
   refine ⟨v,⟨dV,hv⟩,?_⟩
   cbv
   refine ⟨⟨⟨ins,gs,outs,dr⟩,v,g,true⟩,⟨by exact bp,w6⟩,?_⟩
   cbv
   refine ⟨some (some ta),⟨hA⟩,?_⟩
   cbv
   refine ⟨some none,⟨hB⟩,?_⟩
   cbv
   refine ⟨some (some tc),⟨hC⟩,?_⟩
   cbv
   refine ⟨⟨g.op,ta,0,tc,R⟩,⟨by exact bp,mJ⟩,?_⟩
   cbv
   refine ⟨R,⟨by exact bp⟩,?_⟩
   cbv
   exact ⟨(i+1,m2),by have bH:=e7;exact bh,by have uF:=Ce;exact bh,⟨gy⟩⟩
  ·have mJ:=Oo tb 0 (λt h=>by rw [hB] at h;cases h;rfl) (λt h=>by rw [hC] at h;cases h)
   cbv
   refine ⟨v,⟨dV,hv⟩,?_⟩
   cbv
   refine ⟨⟨⟨ins,gs,outs,dr⟩,v,g,true⟩,⟨by exact bp,w6⟩,?_⟩
   cbv
   refine ⟨some (some ta),⟨hA⟩,?_⟩
   cbv
   refine ⟨some (some tb),⟨hB⟩,?_⟩
   cbv
   refine ⟨some none,⟨hC⟩,?_⟩
   cbv
   refine ⟨⟨g.op,ta,tb,0,R⟩,⟨by exact bp,mJ⟩,?_⟩
   cbv
   refine ⟨R,⟨by exact bp⟩,?_⟩
   cbv
   exact ⟨(i+1,m2),by have bH:=e7;exact bh,by have uF:=Ce;exact bh,⟨gy⟩⟩
  ·have mJ:=Oo tb tc (λt h=>by rw [hB] at h;cases h;rfl) (λt h=>by rw [hC] at h;cases h;rfl)
   cbv
   refine ⟨v,⟨dV,hv⟩,?_⟩
   cbv
   refine ⟨⟨⟨ins,gs,outs,dr⟩,v,g,true⟩,⟨by exact bp,w6⟩,?_⟩
   cbv
   refine ⟨some (some ta),⟨hA⟩,?_⟩
   cbv
   refine ⟨some (some tb),⟨hB⟩,?_⟩
   cbv
   refine ⟨some (some tc),⟨hC⟩,?_⟩
   cbv
   refine ⟨⟨g.op,ta,tb,tc,R⟩,⟨by exact bp,mJ⟩,?_⟩
   cbv
   refine ⟨R,⟨by exact bp⟩,?_⟩
   cbv
   exact ⟨(i+1,m2),by have bH:=e7;exact bh,by have uF:=Ce;exact bh,⟨gy⟩⟩
 have cG:l.length<=i:=aH
 have EP:m root=some (fX ins.length gs S root.toNat):=by
  rcases Zw G hc with q|q
  ·exact hT.leaf root q
  ·exact hT.nd root (by rw [iQ cG];exact q)
 obtain ⟨tr,HQ⟩:∃tr,fX ins.length gs S root.toNat=tr:=⟨_,rfl⟩
 rw [HQ] at EP
 unfold nU xM at vN
 rw [hc,HQ] at vN
 obtain ⟨ht,he⟩:=Prod.mk.inj vN
 have s1:(0:Int)<=((S.length:Nat):Int):=n0 _
 have s3:0<=IntKind.u64.wrap (1*2^min ((S.length:Nat):Int).toNat IntKind.u64.bits)/\IntKind.i64.wrap (IntKind.i64.wrap (1*2^min (IntKind.u64.wrap (1*2^min ((S.length:Nat):Int).toNat IntKind.u64.bits)).toNat IntKind.i64.bits) - 1)=2^2^S.length - 1:=by
  have:S.length=0\/S.length=1\/S.length=2\/S.length=3\/S.length=4:=by omega
  rcases this with q|q|q|q|q<;>rw [q]<;>decide
 obtain ⟨s2,s4⟩:=s3
 have jA:fN .and .i64 tr (IntKind.i64.wrap (IntKind.i64.wrap (1*2^min (IntKind.u64.wrap (1*2^min ((S.length:Nat):Int).toNat IntKind.u64.bits)).toNat IntKind.i64.bits) - 1))=t:=by rw [s4];exact ht
 clear h s4
 cbv
 refine ⟨some (some tr),⟨EP⟩,?_⟩
 cbv
 exact ⟨⟨s1⟩,⟨s2⟩,⟨by have bH:=jA;have iY:=he;exact bX⟩⟩
theorem YJ {sig:Int->Option Int}:∀{S:List Int} {i:Nat} {x:Int},(∀j y,j < i->S[j]?=some y->(sig y).isSome=true)->S[i]?=some x->sig x=none->oW sig S=((S.take i).map λy=>(sig y).getD 0,false)
 | [],i,x,_,h,_=>by simp at h
 | y :: S,0,x,_,h,hn=>by
  simp at h;subst h
  unfold oW;rw [hn];rfl
 | y :: S,i+1,x,ha,h,hn=>by
  have hy:=ha 0 y (by omega) rfl
  obtain ⟨s,hs⟩:=tR.1 hy
  have ih:=YJ (S:=S) (i:=i) (x:=x) (λj z hj hz=>ha (j+1) z (by omega) hz) h hn
  unfold oW
  simp only [hs,ih,List.take_succ_cons,iE,u5]
theorem ajV {sig:Int->Option Int} {S:List Int} (h:∀j y,j < S.length->S[j]?=some y->(sig y).isSome=true):oW sig S=(S.map λy=>(sig y).getD 0,true) :=
 IF λx hx=>by
  obtain ⟨j,hj⟩:=nG hx
  exact tR.1 (h j x (bt.1 hj).1 hj)
structure asC where
 n:Net
 root:Int
 S:List Int
 sig:Int->Option Int
 c:Cell
 e:Int
structure O8 (n:Net) (root:Int) (S:List Int) (sig:Int->Option Int) (c:Cell) (e:Int):Prop where
 G:ca n.ins.length n.aT
 e6:S.length<=1000000
 lo:2+(n.ins.length:Int)<=root
 hi:root < 2+(n.ins.length:Int)+n.aT.length
 eq:cellOf n.ins.length n.aT root S sig=(c,e)
@[reducible] noncomputable def UT:Vc.Spec where
 α:=asC
 args x:=[.agg (jr x.n),.i .i64 (λ_=>x.root),.sl 1 bP (λ_=>x.S),.mp (.int .i64) bP (λ_=>x.sig)]
 pre x:=O8 x.n x.root x.S x.sig x.c x.e
 res x:=.cS [.agg (lN x.c),.i .i64 (λ_=>x.e)]
noncomputable def asD (n m:Nat):Ctx:=dH n m [] [(186,OY),(96,UL),(187,ae5)]
theorem acC (n m:Nat):CB PP (asD n m):=dK n m trivial ⟨Tl,acj,aom,trivial⟩
theorem acD:cR (PP ()) 116 UT:=by
 refine et (acC 0 0) (fo Tryz.func116) (λa=>⟨mu a.n,trivial,λx=>(df x).1,λx=>(df x).1,trivial⟩) (λa=>⟨(wx _).1,trivial,trivial⟩) ?_
 rintro ⟨⟨ins,gs,outs,dr⟩,root,S,sig,⟨ci,ct,cr⟩,e⟩ hx
 obtain ⟨G,hS,fb,kN,n8⟩:O8 ⟨ins,gs,outs,dr⟩ root S sig ⟨ci,ct,cr⟩ e:=hx
 have G:ca ins.length gs:=G
 have fb:2+(ins.length:Int)<=root:=fb
 have kN:root < 2+(ins.length:Int)+gs.length:=kN
 have n8:cellOf ins.length gs root S sig=(⟨ci,ct,cr⟩,e):=n8
 have hb:=G.k8
 obtain ⟨Rf,pa⟩:∃Rf:Nat->List Int,∀i,Rf i=(S.take i).map λy=>(sig y).getD 0:=⟨_,λ_=>rfl⟩
 have HK:[]=Rf 0:=by rw [pa];rfl
 have EM:∀(i:Nat) (x s:Int),S[i]?=some x->sig x=some s->Rf i++[s]=Rf (i+1):=λi x s hx hs=>by
  rw [pa,pa,jR,hx,oQ,qe,iE,AD,hs];rfl
 have zR:∀i,i<=S.length->(Rf i).length=i:=λi hi=>by rw [pa,iR,iw];omega
 have TZ:∀(i:Nat) (x:Int),(∀j y,j < i->S[j]?=some y->(sig y).isSome=true)->S[i]?=some x->sig x=none->Rf i=ci/\0=ct/\-1=cr/\260=e:=λi x h1 h2 h3=>by
  have hc:=n8
  unfold cellOf at hc
  rw [YJ h1 h2 h3,<-pa] at hc
  simp only [pv,if_false,Prod.mk.injEq,Cell.mk.injEq] at hc
  obtain ⟨⟨a,b,c⟩,d⟩:=hc
  exact ⟨a,b,c,d⟩
 obtain ⟨A,hA⟩:∃A,Rf S.length=A:=⟨_,rfl⟩
 have jX:root.toNat - 2 - ins.length < gs.length:=by omega
 obtain ⟨g,hg⟩:=bO (l:=gs) jX
 have hga:fI ins.length gs root.toNat=some g:=lL.2 ⟨_,by omega,hg⟩
 obtain ⟨tt,te,htt⟩:∃tt te,nU ins.length gs root S=(tt,te):=⟨_,_,rfl⟩
 have asE:(∀j y,j < S.length->S[j]?=some y->(sig y).isSome=true)->(if g.op=7 then ((⟨A,0,g.n⟩:Cell),if S=cC g then (0:Int) else 260) else if S=[root] then (⟨A,0,-1⟩,260) else (⟨A,tt,-1⟩,if te=0 then 0 else 260))=(⟨ci,ct,cr⟩,e):=λh=>by
  have hc:=n8
  unfold cellOf at hc
  have hm:S.map (λy=>(sig y).getD 0)=A:=by rw [<-hA,pa,AQ]
  rw [ajV h,hm] at hc
  simp only [if_true,hga,htt] at hc
  exact hc
 have w1:IntKind.i64.wrap (root - 2)=root - 2:=dt (by omega) (by omega)
 have w2:IntKind.i64.wrap (IntKind.i64.wrap (root - 2) - (ins.length:Int))=root - 2 - ins.length:=by rw [w1];exact dt (by omega) (by omega)
 have BP:0<=IntKind.i64.wrap (IntKind.i64.wrap (root - 2) - (ins.length:Int))/\gs[(IntKind.i64.wrap (IntKind.i64.wrap (root - 2) - (ins.length:Int))).toNat]?=some g:=by
  rw [w2]
  refine ⟨by omega,?_⟩
  rw [show (root - 2 - (ins.length:Int)).toNat=root.toNat - 2 - ins.length by omega];exact hg
 have pR:S.length<=1000000000000:=by omega
 clear n8 hga
 refine ⟨?_⟩
 cbv
 refine Sat.oV 2 0 3 1 xN df rfl rfl ?_
 cbv
 refine Sat.dq (acC 0 0) 4 11 [(.c 2 0,3)] (λi:Nat=>[(18,.sl 1 bP (λ_=>S)),(19,.i .i64 (λ_=>(S.length:Int))),(20,.i .i64 (λ_=>(i:Int)))]) (λi=>[(2,.fix 135 [.own 3,.ic .i64 0,.ic .i64 (-1)]),(3,.dyn 3 1 bP (λ_=>Rf i))]) (λi=>i<=S.length/\∀j y,j < i->S[j]?=some y->(sig y).isSome=true) (λi=>S.length - i) 0 (by exact aM) (by have fc:=HK;exact bh) ⟨cg _,λj y h=>absurd h (qf _)⟩ ?_
 intro i hi
 obtain ⟨hi,Wo⟩:i<=S.length/\∀j y,j < i->S[j]?=some y->(sig y).isSome=true:=hi
 have dV:=n0 i
 have e7:=dC (i:=i) (by omega)
 have hRi:=zR i hi
 have b1:((Rf i).length+1)*8<=140737488355328:=by omega
 have b2:(Rf i).length+1<=9223372036854775807:=by omega
 cbv
 refine ⟨λh=>?_,λh=>?_⟩
 ·have bM:i < S.length:=aH
  have bZ:S.length - (i+1) < S.length - i:=by omega
  refine (bO bM).elim λx hx=>?_
  clear h
  rcases hs:sig x with _|s
  ·obtain ⟨e1,e2,e3,e4⟩:=TZ i x Wo hx hs
   cbv
   refine ⟨x,⟨dV,hx⟩,?_⟩
   cbv
   refine ⟨some none,⟨hs⟩,?_⟩
   cbv
   exact ⟨by have gS:=e1;have iY:=e2;have B2:=e3;have PM:=e4;exact bX⟩
  ·have B8:=EM i x s hx hs
   have bS:(i+1<=S.length/\∀j y,j < i+1->S[j]?=some y->(sig y).isSome=true)/\S.length - (i+1) < S.length - i:=⟨⟨bM,λj y hj hy=>by
    by_cases q:j=i
    ·subst q;rw [hx] at hy;cases hy;rw [hs];rfl
    ·exact Wo j y (by omega) hy⟩,bZ⟩
   cbv
   refine ⟨x,⟨dV,hx⟩,?_⟩
   cbv
   refine ⟨some (some s),⟨hs⟩,?_⟩
   cbv
   refine ⟨[s],⟨by exact bp,b1,b2⟩,?_⟩
   cbv
   exact ⟨i+1,by have bH:=e7;exact bh,by have fc:=B8;exact bh,⟨bS⟩⟩
 have cG:S.length<=i:=aH
 have hiS:i=S.length:=by omega
 subst hiS
 have hf:=asE Wo
 obtain ⟨O,hO⟩:∃O,cC g=O:=⟨_,rfl⟩
 have hOl:O.length<=1000000000000:=by have:=(xF g).2;rw [hO] at this;omega
 rw [hO] at hf
 clear h
 cbv
 refine ⟨g,⟨BP⟩,?_⟩
 cbv
 refine ⟨λh=>?_,λh=>?_⟩
 ·have h7:g.op=7:=aH
  rw [if_pos h7] at hf
  obtain ⟨⟨e1,e2,e3⟩,e4⟩:(A=ci/\0=ct/\g.n=cr)/\(if S=O then (0:Int) else 260)=e:=by simpa only [Prod.mk.injEq,Cell.mk.injEq] using hf
  have e1:=hA.trans e1
  clear h
  cbv
  refine ⟨g,⟨by exact bp,trivial⟩,?_⟩
  cbv
  refine ⟨⟨S,O⟩,⟨by have gS:=hO;exact bX,⟨pR,hOl⟩⟩,?_⟩
  cbv
  refine ⟨λh=>?_,λh=>?_⟩
  ·have bW:¬S=O:=by have h':(!decide (S=O))=true:=h.out;simpa using h'
   rw [if_neg bW] at e4
   cbv
   exact ⟨by have gS:=e1;have iY:=e2;have bH:=e3;have B2:=e4;exact bX⟩
  ·have heq:S=O:=by have h':(!decide (S=O))=false:=h.out;simpa using h'
   rw [if_pos heq] at e4
   cbv
   exact ⟨by have gS:=e1;have iY:=e2;have bH:=e3;have B2:=e4;exact bX⟩
 have h7:¬g.op=7:=aH
 rw [if_neg h7] at hf
 have xg:([root]:List Int).length<=1000000000000:=by show 1<=1000000000000;decide
 clear h
 cbv
 refine ⟨⟨S,[root]⟩,⟨.inl ⟨by exact bp,rfl⟩,⟨pR,xg⟩⟩,?_⟩
 cbv
 refine ⟨λh=>?_,λh=>?_⟩
 ·have heq:S=[root]:=by have h':decide (S=[root])=true:=h.out;simpa using h'
  rw [if_pos heq] at hf
  obtain ⟨⟨e1,e2,e3⟩,e4⟩:(A=ci/\0=ct/\-1=cr)/\(260:Int)=e:=by simpa only [Prod.mk.injEq,Cell.mk.injEq] using hf
  have e1:=hA.trans e1
  cbv
  exact ⟨by have gS:=e1;have iY:=e2;have B2:=e3;have PM:=e4;exact bX⟩
 have bW:¬S=[root]:=by have h':decide (S=[root])=false:=h.out;simpa using h'
 rw [if_neg bW] at hf
 obtain ⟨⟨e1,e2,e3⟩,e4⟩:(A=ci/\tt=ct/\-1=cr)/\(if te=0 then (0:Int) else 260)=e:=by simpa only [Prod.mk.injEq,Cell.mk.injEq] using hf
 have e1:=hA.trans e1
 have HD:US ⟨ins,gs,outs,dr⟩ root S tt te:=⟨G,hS,htt⟩
 clear h
 cbv
 refine ⟨⟨⟨ins,gs,outs,dr⟩,root,S,tt,te⟩,⟨by exact bp,HD⟩,?_⟩
 cbv
 refine ⟨λh=>?_,λh=>?_⟩
 ·have vN:¬te=0:=aH
  rw [if_neg vN] at e4
  cbv
  exact ⟨by have gS:=e1;have bH:=e2;have iY:=e3;have B2:=e4;exact bX⟩
 ·have vN:te=0:=aH
  rw [if_pos vN] at e4
  cbv
  exact ⟨by have gS:=e1;have bH:=e2;have iY:=e3;have B2:=e4;exact bX⟩
def wR (m:ej):List SV:=[.i .i64 (λ_=>m.n),.sl 3 lN (λ_=>m.cells),.sl 1 bP (λ_=>m.bj)]
def Wp (c:k9):List SV:=[.sl 1 bP (λ_=>c.root),.sl 1 e8 (λ_=>c.leaves)]
theorem y4 (m:ej):cI (wR m):=⟨trivial,λx=>(wx x).1,λx=>(df x).1,trivial⟩
theorem acE (c:k9):cI (Wp c):=⟨λx=>(df x).1,λx=>(nJ x).1,trivial⟩
theorem ai5 {N last r:Int} {R:List Int} {i:Nat} (hr:R[i]?=some r):oT N last (R.drop i)=(decide (last < r/\r < N)&&oT N r (R.drop (i+1))):=by
 obtain ⟨h,e⟩:=bt.1 hr
 rw [rF h,e];rfl
theorem ai6 {I:Nat} {gs:List Gate} {sig:Int->Option Int} {C:List Cell} {R:List Int} {L:List (List Int)} {i:Nat} {x:Cell} {r:Int} {l:List Int} (hx:C[i]?=some x) (hr:R[i]?=some r) (hl:L[i]?=some l) :
  ow I gs sig (C.drop i) (R.drop i) (L.drop i)=(decide ((cellOf I gs r l sig).2=0)&&Gj x (cellOf I gs r l sig).1&&ow I gs sig (C.drop (i+1)) (R.drop (i+1)) (L.drop (i+1))):=by
 obtain ⟨h1,e1⟩:=bt.1 hx
 obtain ⟨h2,e2⟩:=bt.1 hr
 obtain ⟨h3,e3⟩:=bt.1 hl
 rw [rF h1,rF h2,rF h3,e1,e2,e3];rfl
theorem ai7 {sig:Int->Option Int} {D E:List Int} {i:Nat} {v s:Int} (hv:D[i]?=some v) (hs:E[i]?=some s) :
  ql sig (D.drop i) (E.drop i)=(decide (sig v=some s)&&ql sig (D.drop (i+1)) (E.drop (i+1))):=by
 obtain ⟨h1,e1⟩:=bt.1 hv
 obtain ⟨h2,e2⟩:=bt.1 hs
 rw [rF h1,rF h2,e1,e2];rfl
theorem Yn {N last:Int}:∀{R:List Int},oT N last R=true->dM R/\∀r∈R,last < r/\r < N
 | [],_=>⟨List.Pairwise.nil,by simp⟩
 | r :: R,h=>by
  simp only [oT,cQ,decide_eq_true_eq] at h
  obtain ⟨a,b⟩:=Yn h.2
  refine ⟨fH.2 ⟨λx hx=>(b x hx).1,a⟩,λx hx=>?_⟩
  rcases cV.1 hx with rfl|hx
  ·exact h.1
  ·have:=b x hx;have:=h.1;omega
def wS (b:Bool):Int:=if b then 0 else 260
structure asF where
 n:Net
 m:ej
 c:k9
 e:Int
structure G5 (n:Net) (m:ej) (c:k9) (e:Int):Prop where
 G:ca n.ins.length n.aT
 dr:n.bj.length<=1000000
 cells:m.cells.length<=1000000
 cin:∀x∈m.cells,x.ins.length<=1000000
 lvs:∀l∈c.leaves,l.length<=1000000
 eq:wS (mA n.ins.length n.aT n.bj m c)=e
@[reducible] noncomputable def O9:Vc.Spec where
 α:=asF
 args x:=[.agg (jr x.n),.agg (wR x.m),.agg (Wp x.c)]
 pre x:=G5 x.n x.m x.c x.e
 res x:=.i .i64 (λ_=>x.e)
theorem ajW {I:Nat} {gs:List Gate} {r:Int} {l:List Int} {sig:Int->Option Int}:(cellOf I gs r l sig).1.ins.length<=l.length:=by
 have h:∀l:List Int,(oW sig l).1.length<=l.length:=λl=>by
  induction l with
  | nil=>exact fq _
  | cons x l ih =>
   unfold oW
   cases sig x with
   | none=>exact cg _
   | some s=>simp only [qd];omega
 unfold cellOf
 split
 ·split
  ·split
   ·exact h l
   ·split
    ·exact h l
    ·exact h l
  ·exact h l
 ·exact h l
structure ChF (ins:List eS) (gs:List Gate) (outs:List eS) (dr:List Int) (mc:List Cell) (md R:List Int) (V:List (List Int)) (e N L0:Int) (rB:Bool) (Rk:Nat->Int->Bool) (sg:Int->Option Int) (Ck Dk:Nat->Bool):Prop where
 l1:R.length=mc.length
 l2:V.length=mc.length
 l3:md.length=dr.length
 sge:eP ins.length R=sg
 r0:rB=Rk 0 L0
 rn:∀(i:Nat) (r last:Int),R[i]?=some r->(¬last < r->Rk i last=false)/\(¬r < N->Rk i last=false)/\(last < r->r < N->Rk i last=Rk (i+1) r)
 re:∀(i:Nat) (last:Int),R.length<=i->Rk i last=true
 bad:rB=false->260=e
 zw:rB=true->(ins.length<=1000000/\GD ins.length R)/\wS (Ck 0&&Dk 0)=e/\(∀(i:Nat) (x:Cell),mc[i]?=some x->∃r l y t,R[i]?=some r/\V[i]?=some l/\O8 ⟨ins,gs,outs,dr⟩ r l sg y t/\y.ins.length<=1000000000000/\x.ins.length<=1000000000000 /\
  (¬t=0->Ck i=false)/\(¬x.table=y.table->Ck i=false)/\(¬x.ep=y.ep->Ck i=false)/\(¬x.ins=y.ins->Ck i=false)/\(t=0->x.table=y.table->x.ep=y.ep->x.ins=y.ins->Ck i=Ck (i+1)))
 ce:∀i:Nat,mc.length<=i->Ck i=true
 de:∀i:Nat,dr.length<=i->Dk i=true
 dn:∀(i:Nat) (v:Int),dr[i]?=some v->∃t,md[i]?=some t/\(sg v=none->Dk i=false)/\(∀s,sg v=some s->¬s=t->Dk i=false)/\(sg v=some t->Dk i=Dk (i+1))
theorem chF {ins:List eS} {gs:List Gate} {outs:List eS} {dr:List Int} {mn:Int} {mc:List Cell} {md R:List Int} {V:List (List Int)} {e:Int} (h:G5 ⟨ins,gs,outs,dr⟩ ⟨mn,mc,md⟩ ⟨R,V⟩ e) :
  (¬mn=(ins.length:Int)->260=e)/\(¬(R.length:Int)=mc.length->260=e)/\(¬(V.length:Int)=mc.length->260=e)/\(¬(md.length:Int)=dr.length->260=e) /\
   (mn=(ins.length:Int)->(R.length:Int)=mc.length->(V.length:Int)=mc.length->(md.length:Int)=dr.length ->
    ∃rB Rk sg Ck Dk,ChF ins gs outs dr mc md R V e (2+ins.length+gs.length) (1+ins.length) rB Rk sg Ck Dk):=by
 obtain ⟨G,xh,ER,vM,Lb,he⟩:=h
 have G:ca ins.length gs:=G
 have xh:dr.length<=1000000:=xh
 have ER:mc.length<=1000000:=ER
 have vM:∀x∈mc,x.ins.length<=1000000:=vM
 have Lb:∀l∈V,l.length<=1000000:=Lb
 have he:wS ((decide (mn=ins.length)&&decide (R.length=mc.length)&&decide (V.length=mc.length)&&decide (md.length=dr.length))&&(oT (2+ins.length+gs.length) (1+ins.length) R&&(ow ins.length gs (eP ins.length R) mc R V&&ql (eP ins.length R) dr md)))=e:=he
 have hb:=G.k8
 have k2:¬(R.length:Int)=mc.length->¬R.length=mc.length:=λh e=>h (by rw [e])
 have k3:¬(V.length:Int)=mc.length->¬V.length=mc.length:=λh e=>h (by rw [e])
 have k4:¬(md.length:Int)=dr.length->¬md.length=dr.length:=λh e=>h (by rw [e])
 refine ⟨λh=>by rw [<-he];simp [h,wS],λh=>by rw [<-he];simp [k2 h,wS],λh=>by rw [<-he];simp [k3 h,wS],λh=>by rw [<-he];simp [k4 h,wS],λh1 h2 h3 h4=>?_⟩
 have h2:R.length=mc.length:=by omega
 have h3:V.length=mc.length:=by omega
 have h4:md.length=dr.length:=by omega
 rw [decide_eq_true h1,decide_eq_true h2,decide_eq_true h3,decide_eq_true h4] at he
 simp only [RK,IY] at he
 have hr:oT (2+ins.length+gs.length) (1+ins.length) R=true->(R.length<=1000000/\R.Nodup/\∀r∈R,2+(ins.length:Int)<=r)/\∀r∈R,r < 2+(ins.length:Int)+gs.length:=λh=>by
  obtain ⟨a,b⟩:=Yn h
  exact ⟨⟨by omega,a.imp λh e=>by omega,λr hr=>by have:=b r hr;omega⟩,λr hr=>by have:=b r hr;omega⟩
 refine ⟨oT (2+ins.length+gs.length) (1+ins.length) R,λi last=>oT (2+ins.length+gs.length) last (R.drop i),eP ins.length R,λi=>ow ins.length gs (eP ins.length R) (mc.drop i) (R.drop i) (V.drop i),λi=>ql (eP ins.length R) (dr.drop i) (md.drop i),?_⟩
 refine ⟨h2,h3,h4,rfl,rfl,λi r last HM=>?_,λi last h=>?_,λh=>by rw [<-he,h];rfl,λh=>?_,λi h=>?_,λi h=>?_,λi v hv=>?_⟩
 ·show (_->oT _ last (R.drop i)=_)/\(_->oT _ last (R.drop i)=_)/\(_->_->oT _ last (R.drop i)=oT _ r (R.drop (i+1)))
  rw [ai5 HM]
  exact ⟨λh=>by rw [decide_eq_false λk=>h k.1];rfl,λh=>by rw [decide_eq_false λk=>h k.2];rfl,λa b=>by rw [decide_eq_true ⟨a,b⟩];rfl⟩
 ·show oT _ last (R.drop i)=true
  rw [F2 h];rfl
 ·obtain ⟨⟨a,b,c⟩,d⟩:=hr h
  refine ⟨⟨by omega,a,b,c⟩,by rw [<-he,h];rfl,λi x hx=>?_⟩
  have bM:=(bt.1 hx).1
  obtain ⟨r,xg⟩:=bO (l:=R) (i:=i) (by omega)
  obtain ⟨l,iW⟩:=bO (l:=V) (i:=i) (by omega)
  obtain ⟨y,t,Wq⟩:∃y t,cellOf ins.length gs r l (eP ins.length R)=(y,t):=⟨_,_,rfl⟩
  have cw:=Lb l (cB iW)
  have nZ:y.ins.length<=l.length:=by have:=ajW (I:=ins.length) (gs:=gs) (r:=r) (l:=l) (sig:=eP ins.length R);rw [Wq] at this;exact this
  refine ⟨r,l,y,t,xg,iW,⟨G,cw,c r (cB xg),d r (cB xg),Wq⟩,by omega,by have:=vM x (cB hx);omega,?_⟩
  have e:=ai6 (I:=ins.length) (gs:=gs) (sig:=eP ins.length R) hx xg iW
  rw [Wq] at e
  have e:ow ins.length gs (eP ins.length R) (mc.drop i) (R.drop i) (V.drop i)=(decide (t=0)&&(decide (x.table=y.table)&&decide (x.ep=y.ep)&&decide (x.ins=y.ins))&&ow ins.length gs (eP ins.length R) (mc.drop (i+1)) (R.drop (i+1)) (V.drop (i+1))):=e
  refine ⟨λh=>?_,λh=>?_,λh=>?_,λh=>?_,λq1 q2 q3 q4=>?_⟩
  ·show ow _ _ _ _ _ _=_
   rw [e,decide_eq_false h];simp
  ·show ow _ _ _ _ _ _=_
   rw [e,decide_eq_false h];simp
  ·show ow _ _ _ _ _ _=_
   rw [e,decide_eq_false h];simp
  ·show ow _ _ _ _ _ _=_
   rw [e,decide_eq_false h];simp
  ·show ow _ _ _ _ _ _=ow _ _ _ _ _ _
   rw [e,decide_eq_true q1,decide_eq_true q2,decide_eq_true q3,decide_eq_true q4];rfl
 ·show ow _ _ _ (mc.drop i) _ _=true
  rw [F2 h];rfl
 ·show ql _ (dr.drop i) _=true
  rw [F2 h];rfl
 ·have bM:=(bt.1 hv).1
  obtain ⟨t,ht⟩:=bO (l:=md) (i:=i) (by omega)
  have e:=ai7 (sig:=eP ins.length R) hv ht
  refine ⟨t,ht,λh=>?_,λs hs h=>?_,λh=>?_⟩
  ·show ql _ _ _=_
   rw [e,h];rfl
  ·show ql _ _ _=_
   rw [e,hs,decide_eq_false λk=>h (wq k)];rfl
  ·show ql _ _ _=ql _ _ _
   rw [e,h,decide_eq_true rfl];rfl
def ko (L:Int) (s:Int):Bool:=decide (0<=s/\s < L)
def ug (x:Cell):Bool:=decide (x.ep=-1)&&decide (x.ins.length<=4)&&decide (0<=x.table)&&decide (x.table < 2^(2^x.ins.length))
def uh (x:Cell):Bool:=decide (0<=x.ep)&&decide (x.ep < 64)&&decide (x.ins.length=3)&&decide (x.table=0)
def adU (x:Cell) (L:Int):Bool:=(ug x||uh x)&&x.ins.all (ko L)
def xO:List Cell->Int->Bool
 | [],_=>true
 | x :: r,L=>adU x L&&xO r (L+1)
theorem aju {C:List Cell} {L:Int} {i:Nat} {x:Cell} (hx:C[i]?=some x):xO (C.drop i) L=(adU x L&&xO (C.drop (i+1)) (L+1)):=by
 obtain ⟨h1,e1⟩:=bt.1 hx
 rw [rF h1,e1];rfl
def El (m:ej):Bool:=decide (0<=m.n)&&decide (m.n<=600)&&decide (2+m.n+m.cells.length<=600)&&(xO m.cells (2+m.n)&&m.bj.all (ko (2+m.n+m.cells.length)))
structure asG where
 l:List Int
 L:Int
@[reducible] noncomputable def UU:Vc.Spec where
 α:=asG
 args x:=[.sl 1 bP (λ_=>x.l),.i .i64 (λ_=>x.L)]
 pre x:=x.l.length<=1000000
 res x:=.b (λ_=>x.l.all (ko x.L))
noncomputable def asH (n m:Nat):Ctx:=dH n m [(82,Tryz.f82),(176,Tryz.f176),(112,Tryz.f112)] [] [] [176]
theorem acF (n m:Nat):CB PP (asH n m):=dK n m ⟨fo Tryz.func82,fo Tryz.func176,fo Tryz.func112,trivial⟩ trivial
theorem acG:cR (PP ()) 111 UU:=by
 refine et (acF 0 0) (fo Tryz.func111) (λa=>⟨λx=>(df x).1,trivial,trivial⟩) (λa=>trivial) ?_
 rintro ⟨a,L⟩ hx
 have ha:a.length<=1000000:=hx
 obtain ⟨f,hf⟩:∃f,f=ko L:=⟨_,rfl⟩
 have hu:a.all (ko L)=a.all f:=by rw [hf]
 have hz:(a.take 0).all f=true:=rfl
 have dg:∀(i:Nat) (x:Int),a[i]?=some x->¬(0<=x/\x < L)->(!gI 0 (i:Int))=a.all (ko L):=λi x hx h=>by
  have e:a.all (ko L)=false:=by
   rw [List.all_eq_false]
   exact ⟨x,cB hx,by unfold ko;rw [decide_eq_false h];decide⟩
  rw [e];simp [gI]
 have BU:∀(i:Nat) (x:Int),a[i]?=some x->0<=x->x < L->(a.take i).all f=true->(a.take (i+1)).all f=true:=λi x hx h1 h2 h3=>by
  rw [aaw hx,h3,hf];unfold ko;rw [decide_eq_true ⟨h1,h2⟩];rfl
 refine ⟨?_⟩
 cbv
 refine Sat.dq (acF 0 0) 1 8 [] (λi:Nat=>[(8,.i .i64 (λ_=>(i:Int)))]) (λi=>[])
  (λi=>i<=a.length/\(a.take i).all f=true) (λi=>a.length - i) 0 (by exact aM) (by exact aM) ⟨cg _,hz⟩ ?_
 rintro i ⟨hi,ht⟩
 have h0:=n0 i
 have h1:=dC (i:=i) (by omega)
 cbv
 refine ⟨λh=>?_,λh=>?_⟩
 ·have bM:i < a.length:=aH
  have bZ:a.length - (i+1) < a.length - i:=by omega
  refine (bO bM).elim λx hx=>?_
  have dg:=dg i x hx
  have BU:=BU i x hx
  clear h
  cbv
  refine ⟨x,⟨h0,hx⟩,?_⟩
  cbv
  refine ⟨λh=>?_,λh=>?_⟩
  ·have aP:¬0<=x:=aH
   have e:=dg λh=>aP h.1
   cbv
   exact ⟨by have kQ:=e;exact bX⟩
  have cG:0<=x:=aH
  clear h
  cbv
  refine ⟨λh=>?_,λh=>?_⟩
  ·have aP:¬x < L:=aH
   have e:=dg λh=>aP h.2
   cbv
   exact ⟨by have kQ:=e;exact bX⟩
  ·have aP:x < L:=aH
   have bS:i+1<=a.length/\(a.take (i+1)).all f=true:=⟨bM,BU cG aP ht⟩
   cbv
   exact ⟨i+1,by have bH:=h1;exact bh,by exact aM,⟨⟨bS,bZ⟩⟩⟩
 ·have cG:a.length<=i:=aH
  have e:true=a.all (ko L):=by rw [hu,<-ht,iQ cG]
  cbv
  exact ⟨by have eK:=e;exact bX⟩
end Go.Proofs.Pk
