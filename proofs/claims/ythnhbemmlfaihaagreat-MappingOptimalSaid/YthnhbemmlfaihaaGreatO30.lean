import Derived.Test.YthnhbemmlfaihaaGreatO13
import Derived.Test.YthnhbemmlfaihaaGreatO20
import Derived.Test.YthnhbemmlfaihaaGreatO23
import Derived.Test.YthnhbemmlfaihaaGreatO29
set_option linter.unusedVariables false
set_option linter.unusedSimpArgs false
set_option maxRecDepth 10000
set_option maxHeartbeats 64000000
namespace Go.Proofs.Pk
open Go Go.Vc
theorem ahz {s s':dW} {g:Gate} (h:wU s g=some s'):∃l,s'.labels=s.labels++[1+bR s.labels l]:=by
 unfold wU at h
 dsimp only at h
 split at h
 ·cases h;exact ⟨_,rfl⟩
 ·split at h
  ·cases h
  ·split at h
   ·cases h
   ·cases h;exact ⟨_,rfl⟩
theorem ZE {I:Nat}:∀(n:Nat) {gs:List Gate} {s:dW},gs.length=n->iO I gs=some s->∀x∈s.labels,x<=(n:Int)
 | 0,gs,s,hl,h,x,hx=>by
  obtain rfl:=iV hl
  cases h
  have:=(Ea.1 hx).2
  omega
 | n+1,gs,s,hl,h,x,hx=>by
  rcases List.eq_nil_or_concat gs with rfl|⟨hs,g,rfl⟩
  ·simp at hl
  rw [List.concat_eq_append] at h hl
  rw [Lf] at h
  cases hp:iO I hs with
  | none=>rw [hp] at h;cases h
  | some s0 =>
   rw [hp] at h
   have uZ:hs.length=n:=by simp at hl;omega
   have ih:=ZE n uZ hp
   obtain ⟨l,e⟩:=ahz (show wU s0 g=some s from h)
   rw [e] at hx
   rcases dD.1 hx with hx|hx
   ·have:=ih x hx;omega
   ·rw [gD] at hx
    have:bR s0.labels l<=(n:Int):=sW (by omega) λv _=>by
     rw [List.getD_eq_getElem?_getD]
     cases hv:s0.labels[v.toNat]? with
     | none=>show (0:Int)<=n;omega
     | some y=>exact ih y (cf hv)
    omega
theorem YH:∀(U N:List (List Int)),(U.foldl th N).length<=N.length+U.length
 | [],N=>fb _
 | u :: U,N=>by
  rw [nN]
  have h1:=YH U (th N u)
  have h2:(th N u).length<=N.length+1:=by
   unfold th
   split
   ·exact YG N u
   ·omega
  rw [ql];omega
theorem YI (Co:List (List Int)):∀A:List (List Int),(A.flatMap λa=>Co.map λb=>gE a b).length=A.length*Co.length
 | []=>by simp
 | a :: A=>by
  rw [qR,List.length_append,YI Co A,jP,ql,Nat.add_mul];omega
theorem aii (A Co:List (List Int)):(nQ A Co).length<=A.length*Co.length:=by
 have:=YH (A.flatMap λa=>Co.map λb=>gE a b) []
 rw [YI,Ef,oZ] at this
 exact this
theorem YJ {C:List (List (List Int))} (hC:∀c∈C,c.length<=400):∀(ops:List Int) (A:List (List Int)),(ops.foldl (λall o=>nQ all (C.getD o.toNat [])) A).length<=A.length*400^ops.length
 | [],A=>by simp
 | o :: r,A=>by
  rw [nN]
  have h1:=YJ hC r (nQ A (C.getD o.toNat []))
  have h2:(C.getD o.toNat []).length<=400:=by
   rw [List.getD_eq_getElem?_getD]
   cases h:C[o.toNat]? with
   | none=>exact cg _
   | some c=>exact hC c (cf h)
  have h3:=ot (aii A (C.getD o.toNat [])) (Nat.mul_le_mul_left A.length h2)
  have h4:=wM (400^r.length) h3
  rw [ql,Nat.pow_succ,Nat.mul_comm (400^r.length) 400,<-Nat.mul_assoc]
  exact ot h1 h4
theorem ahA {C:List (List (List Int))} (hC:∀c∈C,c.length<=400) {ops:List Int} (ho:ops.length<=3):(pI C ops).length<=100000000:=by
 unfold pI
 rw [(wK _).length_eq]
 have h1:=YJ hC ops [[]]
 have h2:400^ops.length<=400^3:=KM (by omega) ho
 have h3:(400:Nat)^3=64000000:=by decide
 simp only [sZ,Nat.one_mul] at h1
 omega
theorem cb.take {I:Nat} {gs:List Gate} (G:cb I gs) (j:Nat):cb I (gs.take j):=cb.left (hs:=gs.drop j) (by rw [List.take_append_drop];exact G)
theorem Xz {A:Type} {l:List A} {j:Nat} {x:A} (h:l[j]?=some x):l.take (j+1)=l.take j++[x]:=by rw [kf,h];rfl
theorem akO {n:Net} (G:cb n.ins.length n.aY) {j:Nat} (hj:j < n.aY.length) {s:dW} (hs:iO n.ins.length (n.aY.take j)=some s):Fw n s (2+n.ins.length+j) (iO n.ins.length (n.aY.take (j+1))):=by
 have uI:=G.j6
 have Gt:=G.take j
 have iY:=EC _ rfl Gt hs
 have JA:(n.aY.take j).length=j:=by rw [jd];omega
 have xa:∀x∈s.labels,0<=x/\x<=1000000:=λx hx=>by
  have h1:=ZE _ JA hs x hx
  have h2:=iY.pos x hx
  omega
 have mJ:=iY.len
 have j3:=iY.Fp
 have C9:=iY.oD
 rw [JA] at mJ j3 C9
 have hg:∀g,n.aY[2+n.ins.length+j - 2 - n.ins.length]?=some g->n.aY[j]?=some g:=λg h=>by rw [<-h];congr 1;omega
 have gJ:∀l:List Int,l.length<=4->(∀x∈l,0<=x/\x < 2+(n.ins.length:Int)+j)->jY s.labels l:=λl h1 h2=>⟨by omega,λv hv=>by have:=h2 v hv;rw [mJ];omega,xa⟩
 refine ⟨by omega,mJ,j3,C9,by omega,by omega,λh=>by omega,λg _ h=>?_,λg _ h _=>?_,λg _ h h7=>?_⟩
 ·rw [Xz (hg g h),Lf,hs];rfl
 ·have ho:=s7 g
  exact gJ _ (by omega) (G.ops (hg g h))
 ·have Jb:=hg g h
  have ho:=s7 g
  have eQ:=G.ops Jb
  have G1:cb n.ins.length (n.aY.take j++[g]):=by rw [<-Xz Jb];exact G.take (j+1)
  have hM:=PX Gt iY (m:=2+n.ins.length+j) (by rw [JA];omega) (l:=ca g) (λo ho=>by have:=eQ o ho;omega)
  refine ⟨⟨ho.2,λo ho=>by have:=eQ o ho;rw [j3];omega,iY.gl,λc hc l hl=>?_,rfl,?_⟩,ahA iY.gl ho.2,λy hy=>gJ y (hM.len y hy) λx hx=>by have:=hM.lim y hy x hx;omega⟩
  ·obtain ⟨v,hv⟩:=lN hc
   exact (iY.cut v c hv).1.len l hl
  ·exact List.length_pos_iff.2 (ah0 G1 iY)
theorem ag6 (k:Nat):k8 (k+1)=⟨(k8 k).labels++[0],(k8 k).eT++[[[2+(k:Int)]]],(k8 k).leaves++[[]]⟩:=by
 simp only [k8,dW.mk.injEq]
 refine ⟨?_,?_,?_⟩
 ·rw [<-Nat.add_assoc,List.replicate_succ']
 ·rw [BL,qm,List.append_assoc];rfl
 ·rw [<-Nat.add_assoc,List.replicate_succ']
theorem ajy {n:Net} (hb:n.ins.length+n.aY.length<=1000000) {k:Nat} (hk:k < n.ins.length):Fw n (k8 k) (2+k) (some (k8 (k+1))):=by
 refine ⟨by omega,by simp [k8],by simp [k8];omega,by simp [k8],hb,by omega,λ_=>?_,λg h=>by omega,λg h=>by omega,λg h=>by omega⟩
 rw [ag6,Int.natCast_add];rfl
def nk (I:Nat) (gs:List Gate) (k:Nat):Option dW:=if k<=I then some (k8 k) else iO I (gs.take (k - I))
theorem aaq (I:Nat) (gs:List Gate):nk I gs 0=some (k8 0):=by unfold nk;rw [if_pos (cg _)]
theorem QM {I:Nat} {gs:List Gate} {j:Nat}:nk I gs (I+j)=iO I (gs.take j):=by
 unfold nk
 split
 ·have:j=0:=by omega
  subst this;rfl
 ·rw [Pg]
theorem ajz {I:Nat} {gs:List Gate} {k:Nat} (h:I+gs.length<=k):nk I gs k=iO I gs:=by
 obtain ⟨j,rfl⟩:∃j,k=I+j:=⟨k - I,by omega⟩
 rw [QM,iL (by omega)]
theorem XA {I:Nat}:∀(hs gs:List Gate),iO I gs=none->iO I (gs++hs)=none
 | [],gs,h=>by simpa using h
 | g :: hs,gs,h=>by
  rw [show gs++g :: hs=(gs++[g])++hs by simp]
  exact XA hs _ (by rw [Lf,h];rfl)
theorem aij {I:Nat} {gs:List Gate} {k:Nat} (h:nk I gs k=none):iO I gs=none:=by
 unfold nk at h
 split at h
 ·cases h
 ·have:=XA (gs.drop (k - I)) _ h
  rwa [List.take_append_drop] at this
theorem an8 {n:Net} (G:cb n.ins.length n.aY) {k:Nat} (hk:k < n.ins.length+n.aY.length) {s:dW} (hs:nk n.ins.length n.aY k=some s):Fw n s (2+k) (nk n.ins.length n.aY (k+1)):=by
 have hb:=G.j6
 by_cases hi:k < n.ins.length
 ·unfold nk at hs ⊢
  rw [if_pos (by omega)] at hs ⊢
  cases hs
  exact ajy (by omega) hi
 ·obtain ⟨j,rfl⟩:∃j,k=n.ins.length+j:=⟨k - n.ins.length,by omega⟩
  rw [QM] at hs
  rw [Nat.add_assoc n.ins.length,QM,<-Nat.add_assoc 2]
  exact akO G (by omega) hs
structure abC where
 n:Net
 out:Option dW
@[reducible] noncomputable def SP:Vc.Spec where
 α:=abC
 args x:=[.agg [.sl 3 je (λ_=>x.n.ins),.sl 5 kY (λ_=>x.n.aY),.sl 3 je (λ_=>x.n.outs),.sl 1 bC (λ_=>x.n.bj)]]
 pre x:=cb x.n.ins.length x.n.aY/\iO x.n.ins.length x.n.aY=x.out
 res x:=match x.out with
  | some s=>.cM [.dV (M5 x.n s) 0,.ic .i64 0]
  | none=>.cM [.cell,.ic .i64 2]
noncomputable def ap8 (n m:Nat):Ctx:=dM n m [] [] [] [] [] [113,35] [35]
theorem aar (n m:Nat):CB PP (ap8 n m):=dP n m trivial trivial
noncomputable def ap9 (n m:Nat):Ctx:=dM n m [] []
theorem al8 (n m:Nat):CB PP (ap9 n m):=dP n m trivial trivial
noncomputable def aqa (n m:Nat):Ctx:=dM n m [(237,Tryz.f237)] [] [237] [] [1,2,9]
theorem aas (n m:Nat):CB PP (aqa n m):=dP n m ⟨fo Tryz.func237,trivial⟩ trivial
theorem aat:dt (PP ()) 181 SP:=by
 refine e6 (aas 0 0) (fo Tryz.func181) (λa=>⟨⟨λx=>(uh x).1,λx=>(ui x).1,λx=>(uh x).1,λx=>(cP x).1,trivial⟩,trivial⟩) (λa=>by rcases a with ⟨n,_|s⟩<;>first|exact ⟨trivial,trivial,trivial⟩|exact ⟨Zy n s,trivial,trivial⟩) ?_
 rintro ⟨⟨ins,gs,outs,dr⟩,out⟩ hx
 obtain ⟨G,du⟩:cb ins.length gs/\iO ins.length gs=out:=hx
 have hb:=G.j6
 obtain ⟨N,hN⟩:∃N,ins.length+gs.length=N:=⟨_,rfl⟩
 have hw:IntKind.i64.wrap ((ins.length:Int)+(gs.length:Int))=(N:Int):=by rw [cW (by omega) (by omega)];omega
 obtain ⟨Sf,sC⟩:∃Sf:Nat->dW,∀k,Sf k=(nk ins.length gs k).getD ⟨[],[],[]⟩:=⟨_,λ_=>rfl⟩
 have N3:nk ins.length gs 0=some (Sf 0):=by rw [sC,aaq];rfl
 have M8:Sf 0=k8 0:=by rw [sC,aaq];rfl
 have z1:[0,0]=(Sf 0).labels:=by rw [M8];rfl
 have z2:[[[]],[[]]]=(Sf 0).eT:=by rw [M8];rfl
 have z3:List.replicate (2:Int).toNat ([]:List Int)=(Sf 0).leaves:=by rw [M8];rfl
 have hSs:∀k s',nk ins.length gs k=some s'->Sf k=s':=λk s' h=>by rw [sC,h];rfl
 have fM:∀k,k < N->nk ins.length gs k=some (Sf k)->Fw ⟨ins,gs,outs,dr⟩ (Sf k) (2+k) (nk ins.length gs (k+1)):=λk hk h=>an8 (n:=⟨ins,gs,outs,dr⟩) G (by show k < ins.length+gs.length;omega) h
 have dx:∀k,nk ins.length gs k=none->out=none:=λk h=>by rw [<-du];exact aij h
 have iJ:∀k,N<=k->nk ins.length gs k=some (Sf k)->out=some (Sf k):=λk hk h=>by rw [<-du,<-ajz (by omega:ins.length+gs.length<=k)];exact h
 have hNb:N<=600:=by omega
 clear sC M8
 refine ⟨?_⟩
 cbv
 refine Sat.jN (aar 0 0) ?_
 cbv
 refine Sat.jN (aar 0 0) ?_
 cbv
 refine ⟨[0,0],⟨by exact bp,rfl⟩,?_⟩
 cbv
 refine ⟨[[[]],[[]]],⟨by exact bp,rfl⟩,?_⟩
 cbv
 refine ⟨⟨by decide,by decide,by decide,by decide⟩,?_⟩
 refine Sat.cU (aas 0 0) 7 6 [(.c 6 4,3),(.c 6 5,4),(.c 6 6,5)] (λk:Nat=>[(23,.i .i64 (λ_=>(N:Int))),(24,.i .i64 (λ_=>(k:Int)))]) (λk=>[(3,.dyn 3 1 bC (λ_=>(Sf k).labels)),(4,.dyn 36 1 yo (λ_=>(Sf k).eT)),(5,.dyn 35 1 eB (λ_=>(Sf k).leaves))]) (λk=>k<=N/\nk ins.length gs k=some (Sf k)) (λk=>N - k) 0 (by have bD:=hw;exact a8) (by have fq:=z1;have rD:=z2;have xz:=z3;exact a8) ⟨cg _,N3⟩ ?_
 intro k hk
 obtain ⟨hk,F8⟩:k<=N/\nk ins.length gs k=some (Sf k):=hk
 have ie:=cX (i:=k) (by omega)
 have hv:IntKind.i64.wrap (2+(k:Int))=((2+k:Nat):Int):=by rw [cW (by omega) (by omega)];omega
 cbv
 refine ⟨λh=>?_,λh=>?_⟩
 rotate_left
 ·have cz:N<=k:=aL
  obtain rfl:=iJ k cz F8
  cbv
  refine Sat.freeze 3 rfl rfl ?_
  refine Sat.freeze 4 rfl rfl ?_
  refine Sat.freeze 5 rfl rfl ?_
  refine Sat.freeze 6 rfl rfl ?_
  refine Sat.jN (al8 0 0) ?_
  cbv
  exact ⟨by exact bp⟩
 have hkN:k < N:=aL
 have AR:=fM k hkN F8
 obtain ⟨V,hV⟩:∃V,2+k=V:=⟨_,rfl⟩
 rw [hV] at AR hv
 have bX:N - (k+1) < N - k:=by omega
 clear h
 rcases hO:nk ins.length gs (k+1) with _|s'
 ·rw [hO] at AR
  obtain rfl:=dx (k+1) hO
  cbv
  refine fh.uT abB (λa y=>trivial) ⟨⟨ins,gs,outs,dr⟩,Sf k,V,none⟩ [6,3,4,5] rfl (by have bD:=hv;exact cd) (by exact aM) ⟨AR⟩ λ_ _=>?_
  cbv
  refine ⟨λh=>?_,λh=>?_⟩
  ·cbv
   exact ⟨by ((try cbv)<;>((repeat' first|exact dA.nil|exact Le.refl _|refine dA.cons ?_ ?_|exact Le.ic rfl|exact Le.bc rfl|exact Le.i rfl|exact Le.b rfl|exact Le.sl rfl|exact Le.mp rfl|exact Le.gq rfl|exact Le.pP rfl|refine Le.cQ rfl (λ_=>?_)|refine Le.ew rfl (λ_ _=>rfl) (λ_=>?_) ?_|refine Le.agg ?_|refine Le.cM ?_|refine Le.fn ?_ ?_|refine Le.dV ?_|exact trivial|refine And.intro ?_ ?_|refine λ_=>?_|exact Le.any _)))<;>exact .cell rfl⟩
  ·have h':(!(none:Option dW).isSome)=false:=h.out
   cases h'
 ·rw [hO] at AR
  have e:=hSs (k+1) s' hO
  have e1:((some s').getD (Sf k)).labels=(Sf (k+1)).labels:=by rw [e];rfl
  have e2:((some s').getD (Sf k)).eT=(Sf (k+1)).eT:=by rw [e];rfl
  have e3:((some s').getD (Sf k)).leaves=(Sf (k+1)).leaves:=by rw [e];rfl
  have gx:(k+1<=N/\nk ins.length gs (k+1)=some (Sf (k+1)))/\N - (k+1) < N - k:=⟨⟨hkN,by rw [e];exact hO⟩,bX⟩
  cbv
  refine fh.uT abB (λa y=>trivial) ⟨⟨ins,gs,outs,dr⟩,Sf k,V,some s'⟩ [6,3,4,5] rfl (by have bD:=hv;exact cd) (by exact aM) ⟨AR⟩ λ_ _=>?_
  cbv
  refine ⟨λh=>?_,λh=>?_⟩
  ·have h':(!(some s').isSome)=true:=h.out
   cases h'
  cbv
  exact ⟨k+1,by have bD:=ie;exact a8,by have fq:=e1;have rD:=e2;have xz:=e3;exact a8,⟨gx⟩⟩
@[reducible] noncomputable def SQ:Vc.Spec where
 α:=abC
 args x:=[.agg [.sl 3 je (λ_=>x.n.ins),.sl 5 kY (λ_=>x.n.aY),.sl 3 je (λ_=>x.n.outs),.sl 1 bC (λ_=>x.n.bj)]]
 pre x:=cb x.n.ins.length x.n.aY/\iO x.n.ins.length x.n.aY=x.out
 res x:=match x.out with
  | some s=>.cM [.sl 1 bC (λ_=>s.labels),.ic .i64 0]
  | none=>.cM [.cQ,.ic .i64 2]
noncomputable def aqb (n m:Nat):Ctx:=dM n m [] [(181,SP)]
theorem al9 (n m:Nat):CB PP (aqb n m):=dP n m trivial ⟨aat,trivial⟩
theorem aau:dt (PP ()) 105 SQ:=by
 refine e6 (al9 0 0) (fo Tryz.func105) (λa=>⟨⟨λx=>(uh x).1,λx=>(ui x).1,λx=>(uh x).1,λx=>(cP x).1,trivial⟩,trivial⟩) (λa=>by rcases a with ⟨n,_|s⟩<;>first|exact ⟨trivial,trivial,trivial⟩|exact ⟨λx=>(cP x).1,trivial,trivial⟩) ?_
 rintro ⟨⟨ins,gs,outs,dr⟩,_|s⟩ hx
 ·have hx:cb ins.length gs/\iO ins.length gs=none:=hx
  refine ⟨?_⟩
  cbv
  refine ⟨⟨⟨ins,gs,outs,dr⟩,none⟩,⟨by exact bp,hx⟩,?_⟩
  cbv
  exact ⟨by exact bp⟩
 ·have hx:cb ins.length gs/\iO ins.length gs=some s:=hx
  refine ⟨?_⟩
  cbv
  refine ⟨⟨⟨ins,gs,outs,dr⟩,some s⟩,⟨by exact bp,hx⟩,?_⟩
  cbv
  exact ⟨by exact bp⟩
def AJ (k:Nat) (v:Int):Option Int:=if 0<=v/\v < k then some v else none
theorem ama:(λ_=>none)=AJ 0:=by funext v;unfold AJ;rw [if_neg (by omega)]
theorem aik (k:Nat):(λj=>if j=(k:Int) then some (k:Int) else AJ k j)=AJ (k+1):=by
 funext j
 unfold AJ
 by_cases h:j=k
 ·rw [if_pos h,if_pos (by omega),h]
 ·rw [if_neg h]
  by_cases h2:0<=j/\j < k
  ·rw [if_pos h2,if_pos (by omega)]
  ·rw [if_neg h2,if_neg (by omega)]
theorem ajA (I:Nat) (roots:List Int):AJ (2+I)=eu I (roots.take 0):=by
 funext v
 unfold AJ eu
 by_cases h:0<=v/\v < 2+(I:Int)
 ·rw [if_pos (by omega),if_pos h]
 ·rw [if_neg (by omega),if_neg h];rfl
theorem ail {I:Nat} {roots:List Int} {i:Nat} {r:Int} (hr:roots[i]?=some r) (hn:roots.Nodup) (fL:2+(I:Int)<=r):(λj=>if j=r then some (2+(I:Int)+i) else eu I (roots.take i) j)=eu I (roots.take (i+1)):=by
 obtain ⟨aO,Gc⟩:=a7.1 hr
 have hlen:(roots.take i).length=i:=by rw [jd];omega
 have aqc:r∉roots.take i:=λhm=>by
  obtain ⟨j,hj⟩:=lN hm
  rw [lO] at hj
  split at hj
  ·obtain ⟨dG,pj⟩:=a7.1 hj
   exact qj.1 hn j i dG aO (by assumption) (by rw [pj,Gc])
  ·cases hj
 funext j
 unfold eu
 rw [kf,hr,pF,List.findIdx?_append]
 by_cases h:j=r
 ·subst h
  have dx:List.findIdx? (λx=>decide (x=j)) (roots.take i)=none:=zM.2 λx hx=>decide_eq_false λe=>aqc (by rw [<-e];exact hx)
  rw [if_pos rfl,if_neg (by omega),dx]
  simp [List.findIdx?_cons,hlen]
 ·rw [if_neg h]
  split
  ·rfl
  ·have e:List.findIdx? (λx=>decide (x=j)) [r]=none:=by
    have:¬r=j:=λe=>h e.symm
    simp [List.findIdx?_cons,this]
   rw [e]
   cases List.findIdx? (λx=>decide (x=j)) (roots.take i)<;>rfl
structure aqd where
 n:Net
 roots:List Int
structure E7 (I:Nat) (roots:List Int):Prop where
 len:roots.length<=1000000
 nd:roots.Nodup
 lo:∀r∈roots,2+(I:Int)<=r
@[reducible] noncomputable def M9:Vc.Spec where
 α:=aqd
 args x:=[.agg [.sl 3 je (λ_=>x.n.ins),.sl 5 kY (λ_=>x.n.aY),.sl 3 je (λ_=>x.n.outs),.sl 1 bC (λ_=>x.n.bj)],.sl 1 bC (λ_=>x.roots)]
 pre x:=x.n.ins.length<=1000000/\E7 x.n.ins.length x.roots
 res x:=.mp (.int .i64) bC (λ_=>eu x.n.ins.length x.roots)
noncomputable def aqe (n m:Nat):Ctx:=dM n m [] []
theorem Rh (n m:Nat):CB PP (aqe n m):=dP n m trivial trivial
theorem Ri:dt (PP ()) 115 M9:=by
 refine e6 (Rh 0 0) (fo Tryz.func115) (λa=>⟨⟨λx=>(uh x).1,λx=>(ui x).1,λx=>(uh x).1,λx=>(cP x).1,trivial⟩,λx=>(cP x).1,trivial⟩) (λa=>λx=>(cP x).1) ?_
 rintro ⟨⟨ins,gs,outs,dr⟩,R⟩ hx
 obtain ⟨hI,N4,Ds,wm⟩:ins.length<=1000000/\E7 ins.length R:=hx
 obtain ⟨Af,zb⟩:∃Af:Nat->Int->Option Int,∀k,Af k=AJ k:=⟨_,λ_=>rfl⟩
 obtain ⟨Sf,sC⟩:∃Sf:Nat->Int->Option Int,∀i,Sf i=eu ins.length (R.take i):=⟨_,λ_=>rfl⟩
 have AZ:(λ_=>none)=Af 0:=by rw [zb];exact ama
 have Uk:∀k:Nat,(λj=>if j=(k:Int) then some (k:Int) else Af k j)=Af (k+1):=λk=>by rw [zb,zb];exact aik k
 have hAS:Af (2+ins.length)=Sf 0:=by rw [zb,sC];exact ajA _ _
 have Bb:∀(i:Nat) (r:Int),R[i]?=some r->(λj=>if j=r then some (2+(ins.length:Int)+i) else Sf i j)=Sf (i+1):=λi r hr=>by rw [sC,sC];exact ail hr Ds (wm r (cf hr))
 have iJ:∀i:Nat,R.length<=i->Sf i=eu ins.length R:=λi hi=>by rw [sC,iL hi]
 obtain ⟨T,hT⟩:∃T,2+ins.length=T:=⟨_,rfl⟩
 have hw:IntKind.i64.wrap (2+(ins.length:Int))=(T:Int):=by rw [cW (by omega) (by omega)];omega
 have qb:∀i:Nat,i<=1000000->IntKind.i64.wrap (IntKind.i64.wrap (2+(ins.length:Int))+(i:Int))=2+(ins.length:Int)+i:=λi hi=>by rw [hw,cW (by omega) (by omega)];omega
 rw [hT] at hAS
 refine ⟨?_⟩
 cbv
 refine Sat.cU (Rh 0 0) 2 6 [] (λk:Nat=>[(13,.i .i64 (λ_=>(T:Int))),(14,.i .i64 (λ_=>(k:Int)))]) (λk=>[(1,.map (.int .i64) bC (λ_=>Af k))]) (λk=>k<=T) (λk=>T - k) 0 (by have bD:=hw;exact a8) (by have tB:=AZ;exact a8) (cg _) ?_
 intro k hk
 have hk:k<=T:=hk
 have ie:=cX (i:=k) (by omega)
 have sy:=Uk k
 cbv
 refine ⟨λh=>?_,λh=>?_⟩
 ·have Un:k < T:=aL
  have bX:T - (k+1) < T - k:=by omega
  clear h
  cbv
  refine ⟨(k:Int),⟨by exact bp⟩,?_⟩
  cbv
  exact ⟨k+1,by have bD:=ie;exact a8,by have tB:=sy;exact a8,⟨⟨Un,bX⟩⟩⟩
 have cz:T<=k:=aL
 have Un:k=T:=by omega
 subst Un
 clear h
 cbv
 refine Sat.cU (Rh 0 0) 2 6 [] (λi:Nat=>[(21,.sl 1 bC (λ_=>R)),(22,.i .i64 (λ_=>(R.length:Int))),(23,.i .i64 (λ_=>(i:Int)))]) (λi=>[(1,.map (.int .i64) bC (λ_=>Sf i))]) (λi=>i<=R.length) (λi=>R.length - i) 0 (by exact aM) (by have tB:=hAS;exact a8) (cg _) ?_
 intro i hi
 have hi:i<=R.length:=hi
 have cZ:=n0 i
 have ei:=cX (i:=i) (by omega)
 have hx:=qb i (by omega)
 have tq:=Bb i
 obtain ⟨X,hX⟩:∃X,2+(ins.length:Int)+i=X:=⟨_,rfl⟩
 rw [hX] at hx tq
 cbv
 refine ⟨λh=>?_,λh=>?_⟩
 ·have bQ:i < R.length:=aL
  have bX:R.length - (i+1) < R.length - i:=by omega
  refine (bK bQ).elim λr hr=>?_
  have nC:=tq r hr
  clear h
  cbv
  refine ⟨r,⟨cZ,hr⟩,?_⟩
  cbv
  refine ⟨X,⟨by have bD:=hx;exact cd⟩,?_⟩
  cbv
  exact ⟨i+1,by have bD:=ei;exact a8,by have tB:=nC;exact a8,⟨⟨bQ,bX⟩⟩⟩
 ·have cz:R.length<=i:=aL
  have hf:=iJ i cz
  cbv
  exact ⟨by have Jn:=hf;exact cd⟩
structure an9 where
 n:Net
 S:List Int
 st:n8
 v:Int
structure ViR where
 res:Bool
 st:n8
abbrev II:Unit->List SV:=λ_=>[.bc true]
def acW (n:Net) (S:List Int) (st:n8):List Slot:=[.fix 35 [.sl 1 bC (λ_=>S)],.fix 184 [.gn 2],.map (.int .i64) II (λ_=>st.rch),.fix 184 [.gn 4],.map (.int .i64) II (λ_=>st.ins),.fix 48 (jX n),.fix 180 [.fn (.func 262) [] [.ptr 0 0,.ptr 1 0,.ptr 3 0,.ptr 5 0,.ptr 6 0]]]
structure Na (n:Net) (S:List Int) (v:Int):Prop where
 G:cb n.ins.length n.aY
 S:S.length<=1000000
 v0:0<=v
 v1:v < 2+n.ins.length+n.aY.length
@[reducible] noncomputable def Uo (k:Nat):o6 where
 α:=an9
 args x:=[.i .i64 (λ_=>x.v),.ptr 0 0,.ptr 1 0,.ptr 3 0,.ptr 5 0,.ptr 6 0]
 io x:=acW x.n x.S x.st
 pre x:=Na x.n x.S x.v/\x.v.toNat<=k
 β:=ViR
 post x y:=oz x.n.ins.length x.n.aY x.S x.st x.v y.res y.st
 mv:=[]
 res x y:=.b (λ_=>y.res)
 l7 x y:=acW x.n x.S y.st
theorem aim {n:Net} {v:Int} {g:Gate} (h:rZ n v=(g,true)):fy n.ins.length n.aY v.toNat=some g/\g.op≠7:=by
 unfold rZ at h
 cases hg:fy n.ins.length n.aY v.toNat with
 | none=>rw [hg] at h;cases h
 | some g' =>
  rw [hg] at h
  simp only at h
  split at h
  ·cases h
  ·cases h;exact ⟨rfl,by assumption⟩
theorem ajB {n:Net} {v:Int} {g:Gate} (h:rZ n v=(g,false)):∀g',fy n.ins.length n.aY v.toNat=some g'->g'.op=7:=λg' hg=>by
 unfold rZ at h
 rw [hg] at h
 simp only at h
 split at h
 ·assumption
 ·cases h
noncomputable def cVi (n m:Nat):Ctx:=dM n m [(262,Tryz.f262)] [(263,Mw),(243,SI),(264,acI)] [262]
theorem abD (n m:Nat):CB PP (cVi n m):=dP n m ⟨fo Tryz.func262,trivial⟩ ⟨QL,aaf,alQ,trivial⟩
theorem ZF (k:Nat) (ih:∀m,m+1=k->nh PP 262 (Uo m)):nh PP 262 (Uo k):=by
 refine sA (abD 0 0) (fo Tryz.func262) (λa y=>rfl) (λa=>⟨rfl,rfl⟩) .nil ?_
 rintro ⟨⟨ins,gs,outs,dr⟩,S,⟨Is,Rs⟩,v⟩ hx
 obtain ⟨⟨G,hS,eM,mL⟩,hvk⟩:Na ⟨ins,gs,outs,dr⟩ S v/\v.toNat<=k:=hx
 have G:cb ins.length gs:=G
 have hS:S.length<=1000000:=hS
 have mL:v < 2+(ins.length:Int)+gs.length:=mL
 have hb:=G.j6
 have rC:S.length<=1000000000000:=by omega
 obtain ⟨g,b,xH⟩:∃g b,rZ ⟨ins,gs,outs,dr⟩ v=(g,b):=⟨_,_,rfl⟩
 have wg:ins.length<=1000/\gs.length<=1000/\0<=v/\v < yq ⟨ins,gs,outs,dr⟩/\rZ ⟨ins,gs,outs,dr⟩ v=(g,b):=⟨by omega,by omega,eM,mL,xH⟩
 obtain ⟨O,hO⟩:∃O,ca g=O:=⟨_,rfl⟩
 have hOl:O.length<=3:=by rw [<-hO];exact (s7 g).2
 have acX:(λj=>if j=v then some () else Rs j)=(n8.mk Is (AI Rs v)).rch:=rfl
 have acY:(λj=>if j=v then some () else Is j)=(n8.mk (AI Is v) Rs).ins:=rfl
 obtain ⟨Ra,hRa⟩:∃Ra,AI Rs v=Ra:=⟨_,rfl⟩
 obtain ⟨Ia,hIa⟩:∃Ia,AI Is v=Ia:=⟨_,rfl⟩
 have acX:(λj=>if j=v then some () else Rs j)=Ra:=hRa
 have acY:(λj=>if j=v then some () else Is j)=Ia:=hIa
 refine ⟨?_⟩
 cbv
 refine ⟨⟨S,v⟩,⟨by exact bp,rC⟩,?_⟩
 cbv
 refine ⟨λh=>?_,λh=>?_⟩
 ·have hm:v∈S:=by have h':S.contains v=true:=h.out;simpa using h'
  have du:oz ins.length gs S ⟨Is,Rs⟩ v true ⟨Is,Ra⟩:=hRa ▸ oz.leaf eM hm
  cbv
  refine ⟨(),⟨by exact bp⟩,?_⟩
  cbv
  exact ⟨⟨true,⟨Is,Ra⟩⟩,[],[],⟨by exact bW,trivial⟩,by have tB:=acX;exact a8,⟨du⟩⟩
 have hm:v∉S:=by have h':S.contains v=false:=h.out;simpa using h'
 clear h
 cbv
 refine ⟨λh=>?_,λh=>?_⟩
 ·have aO:v < 2:=aL
  have du:oz ins.length gs S ⟨Is,Rs⟩ v true ⟨Is,Rs⟩:=.known hm (.inl aO)
  cbv
  exact ⟨⟨true,⟨Is,Rs⟩⟩,[],[],⟨by exact bW,trivial⟩,by exact aM,⟨du⟩⟩
 have cz:2<=v:=aL
 clear h
 cbv
 refine ⟨none,⟨rfl,λ_=>rfl⟩,?_⟩
 cbv
 refine ⟨λh=>?_,λh=>?_⟩
 ·have dw:(Is v).isSome=true:=h.out
  have du:oz ins.length gs S ⟨Is,Rs⟩ v true ⟨Is,Rs⟩:=.known hm (.inr dw)
  cbv
  exact ⟨⟨true,⟨Is,Rs⟩⟩,[],[],⟨by exact bW,trivial⟩,by exact aM,⟨du⟩⟩
 clear h
 cbv
 refine ⟨⟨⟨ins,gs,outs,dr⟩,v,g,b⟩,⟨by exact bp,wg⟩,?_⟩
 cbv
 refine ⟨λh=>?_,λh=>?_⟩
 ·have JB:b=false:=by have h':(!b)=true:=h.out;simpa using h'
  subst JB
  have du:oz ins.length gs S ⟨Is,Rs⟩ v false ⟨Is,Rs⟩:=.bad cz hm (ajB xH)
  cbv
  exact ⟨⟨false,⟨Is,Rs⟩⟩,[],[],⟨by exact bW,trivial⟩,by exact aM,⟨du⟩⟩
 have lI:b=true:=by have h':(!b)=false:=h.out;simpa using h'
 subst lI
 obtain ⟨hg,h7⟩:=aim xH
 have hg:fy ins.length gs v.toNat=some g:=hg
 have Bc:tl ins.length gs S ⟨Is,Rs⟩ v O 0 ⟨Ia,Rs⟩:=hIa ▸ tl.start cz hm O
 have Gd:((v.toNat:Nat):Int)∉S:=by rw [Int.toNat_of_nonneg eM];exact hm
 have wx:∀x∈O,x∈nZ ins.length gs S v.toNat:=λx hx=>qp.2 ⟨Gd,g,hg,h7,by rw [hO];exact hx⟩
 have qH:∀x∈O,0<=x/\x < v:=λx hx=>by have:=Ci G (wx x hx);omega
 refine (⟨k - 1,by omega⟩:∃m,m+1=k).elim λm lg=>?_
 have ih:=ih m lg
 clear h
 cbv
 refine ⟨(),⟨by exact bp⟩,?_⟩
 cbv
 refine ⟨⟨g,O⟩,⟨by exact bp,hO⟩,?_⟩
 cbv
 refine Sat.cU (abD 0 0) 8 6 [] (λy:Nat × n8=>[(37,.sl 1 bC (λ_=>O)),(38,.i .i64 (λ_=>(O.length:Int))),(39,.i .i64 (λ_=>(y.1:Int)))]) (λy=>[(2,.map (.int .i64) II (λ_=>y.2.rch)),(4,.map (.int .i64) II (λ_=>y.2.ins))]) (λy=>tl ins.length gs S ⟨Is,Rs⟩ v O y.1 y.2) (λy=>O.length - y.1) (0,⟨Ia,Rs⟩) (by exact aM) (by have tB:=acY;exact a8) Bc ?_
 rintro ⟨j,⟨I2,R2⟩⟩ hJ
 have hJ:tl ins.length gs S ⟨Is,Rs⟩ v O j ⟨I2,R2⟩:=hJ
 have dG:=hJ.le
 have gV:=n0 j
 have jm:=cX (i:=j) (by omega)
 cbv
 refine ⟨λh=>?_,λh=>?_⟩
 rotate_left
 ·have Nb:O.length<=j:=aL
  have du:=hJ.fin Nb hm hg h7 hO.symm
  cbv
  exact ⟨⟨true,⟨I2,R2⟩⟩,[],[],⟨by exact bW,trivial⟩,by exact aM,⟨du⟩⟩
 have vV:j < O.length:=aL
 have bX:O.length - (j+1) < O.length - j:=by omega
 refine (bK vV).elim λx hx=>?_
 have nB:=cf hx
 have fG:=qH x nB
 have ej:Na ⟨ins,gs,outs,dr⟩ S x/\x.toNat<=m:=⟨⟨G,hS,fG.1,Int.lt_trans fG.2 mL⟩,by have:=fG.1;have:=fG.2;omega⟩
 have N5:=wx x nB
 clear h
 cbv
 refine ⟨x,⟨gV,hx⟩,?_⟩
 cbv
 refine fh.uT ih (λa y=>trivial) ⟨⟨ins,gs,outs,dr⟩,S,⟨I2,R2⟩,x⟩ [0,1,2,3,4,5,6] rfl (by exact bp) (by exact aM) ⟨ej⟩ λy hy=>?_
 obtain ⟨res,⟨I3,R3⟩⟩:=y
 have hy:oz ins.length gs S ⟨I2,R2⟩ x res ⟨I3,R3⟩:=hy.out
 cbv
 refine ⟨λh=>?_,λh=>?_⟩
 ·have hr:res=false:=by have h':(!res)=true:=h.out;simpa using h'
  subst hr
  have du:=hJ.fail N5 hy
  cbv
  exact ⟨⟨false,⟨I3,R3⟩⟩,[],[],⟨by exact bW,trivial⟩,by exact aM,⟨du⟩⟩
 ·have hr:res=true:=by have h':(!res)=false:=h.out;simpa using h'
  subst hr
  have bV:=hJ.step hx N5 hy
  cbv
  exact ⟨(j+1,⟨I3,R3⟩),by have bD:=jm;exact a8,by exact aM,⟨⟨bV,bX⟩⟩⟩
theorem abE:∀k,nh PP 262 (Uo k)
 | 0=>ZF 0 λm h=>by omega
 | k+1=>ZF (k+1) λm h=>by
  cases Nat.succ.inj h
  exact abE k
structure uJ (root:Int) (S:List Int) (i:Nat):Prop where
 le:i<=S.length
 mem:∀x∈S.take i,2<=x/\x<=root
 inc:dU (S.take i)
theorem uJ.start (root:Int) (S:List Int):uJ root S 0:=⟨cg _,by simp,by simp⟩
theorem uJ.step {root:Int} {S:List Int} {i:Nat} {x:Int} (h:uJ root S i) (hx:S[i]?=some x) (h1:2<=x) (h2:x<=root) (h3:∀p,0 < i->S[i - 1]?=some p->p < x):uJ root S (i+1):=by
 refine ⟨(a7.1 hx).1,λy hy=>?_,?_⟩
 ·rw [kf,hx] at hy
  rcases dD.1 hy with hy|hy
  ·exact h.mem y hy
  ·simp at hy;subst hy;exact ⟨h1,h2⟩
 ·rw [kf,hx,pF]
  refine jO.2 ⟨h.inc,by simp,λy hy z hz=>?_⟩
  simp at hz;subst hz
  have hi:0 < i:=by
   rcases BT i with rfl|hi
   ·simp at hy
   ·exact hi
  have aO:=(a7.1 hx).1
  obtain ⟨p,hp⟩:∃p,S[i - 1]?=some p:=⟨_,ea (by omega)⟩
  have Nz:=h3 p hi hp
  have kp:=h.inc
  rw [show i=(i - 1)+1 by omega,kf,hp,pF] at kp hy
  rcases dD.1 hy with hy|hy
  ·have:=(jO.1 kp).2.2 y hy p (by simp);omega
  ·simp at hy;omega
theorem uJ.fin {N root:Int} {S:List Int} {i:Nat} (h:uJ root S i) (hi:S.length<=i) (h1:2<=root) (h2:root < N) (h3:S.length<=4):rU N root S=true:=by
 have e:S.take i=S:=iL hi
 have a:=h.mem
 have b:=h.inc
 rw [e] at a b
 exact zy.2 ⟨h1,h2,h3,a,b⟩
theorem Hu {N root:Int} {S:List Int} (h:¬Ah N root S):rU N root S=false:=by
 cases hb:rU N root S with
 | false=>rfl
 | true=>exact absurd (zy.1 hb) h
theorem ZG {N root:Int} {S:List Int} {i:Nat} {x:Int} (hx:S[i]?=some x) (h:x < 2\/root < x):rU N root S=false:=Hu λL=>by
 have:=L.mem x (cf hx);omega
theorem akP {N root:Int} {S:List Int} {i:Nat} {x p:Int} (hi:0 < i) (hx:S[i]?=some x) (hp:S[i - 1]?=some p) (h:x<=p):rU N root S=false:=Hu λL=>by
 obtain ⟨h1,e1⟩:=a7.1 hx
 obtain ⟨h2,e2⟩:=a7.1 hp
 have:=qj.1 L.inc (i - 1) i h2 h1 (by omega)
 omega
theorem akQ {l m:List Int} (hm:dU m) (hn:l.Nodup) (h:∀u,u∈l↔u∈m):si l=m:=by
 have hp:(si l).Perm l:=List.mergeSort_perm l _
 have hs:(si l).Pairwise (·<=·):=by
  have:=WW (le:=λx y:Int=>decide (x<=y)) (λa b c h1 h2=>by simp only [decide_eq_true_eq] at *;omega) (λa b=>by simp only [oq,decide_eq_true_eq];omega) l
  unfold si
  simpa using this
 have fM:(si l).Nodup:=hp.nodup_iff.2 hn
 have hi:dU (si l):=(Pn.2 ⟨hs,fM⟩).imp λ⟨a,b⟩=>by omega
 exact hi.ext hm λu=>hp.mem_iff.trans (h u)
structure amb (S:List Int) (rch:Int->Option Unit) (ks:List Int):Prop where
 nd:ks.Nodup
 mem:∀n,n∈ks↔(rch n).isSome=true
theorem amc {S:List Int} {rch:Int->Option Unit} (hS:S.Nodup) (h:∀u,(rch u).isSome=true->u∈S):amb S rch (S.filter λx=>(rch x).isSome) :=
 ⟨hS.filter _,λn=>by rw [lP];exact ⟨λa=>a.2,λa=>⟨h n a,a⟩⟩⟩
theorem filter_lt {A:Type} {f:A->Bool}:∀{l:List A},(l.filter f).length < l.length->∃x∈l,f x=false
 | [],h=>by simp at h
 | x :: l,h=>by
  cases hf:f x with
  | false=>exact ⟨x,by simp,hf⟩
  | true =>
   rw [KK hf,ql,ql] at h
   obtain ⟨y,hy,e⟩:=filter_lt (Nat.lt_of_succ_lt_succ h)
   exact ⟨y,by simp [hy],e⟩
theorem ain {A:Type} {f:A->Bool} {l:List A} (h:l.length<=(l.filter f).length):∀x∈l,f x=true:=by
 have:=List.Sublist.eq_of_length_le (List.filter_sublist (p:=f) (l:=l)) h
 intro x hx
 rw [<-this] at hx
 exact (lP.1 hx).2
structure aqf where
 n:Net
 root:Int
 S:List Int
 out:Option (List Int)
structure Nc (n:Net) (root:Int) (S:List Int) (out:Option (List Int)):Prop where
 G:cb n.ins.length n.aY
 gl:S.length<=1000000
 eq:eK n.ins.length n.aY root S=out
@[reducible] noncomputable def acZ:Vc.Spec where
 α:=aqf
 args x:=[.agg (jX x.n),.i .i64 (λ_=>x.root),.sl 1 bC (λ_=>x.S)]
 pre x:=Nc x.n x.root x.S x.out
 res x:=match x.out with
  | some l=>.cM [.sl 1 bC (λ_=>l),.bc true]
  | none=>.cM [.cQ,.bc false]
noncomputable def aqg (n m:Nat):Ctx:=dM n m [] []
theorem amd (n m:Nat):CB PP (aqg n m):=dP n m trivial trivial
noncomputable def aqh (n m:Nat):Ctx:=dM n m [(262,Tryz.f262),(265,Tryz.f265)] [(261,acH)] [262,265] [] [15]
theorem Rj (n m:Nat):CB PP (aqh n m):=dP n m ⟨fo Tryz.func262,fo Tryz.func265,trivial⟩ ⟨alP,trivial⟩
theorem ame:dt (PP ()) 241 acZ:=by
 refine e6 (Rj 0 0) (fo Tryz.func241) (λa=>⟨mr a.n,trivial,λx=>(cP x).1,trivial⟩) (λa=>by rcases a with ⟨n,r,S,_|l⟩<;>first|exact ⟨trivial,trivial,trivial⟩|exact ⟨λx=>(cP x).1,trivial,trivial⟩) ?_
 rintro ⟨⟨ins,gs,outs,dr⟩,root,S,out⟩ hx
 obtain ⟨G,hS,du⟩:Nc ⟨ins,gs,outs,dr⟩ root S out:=hx
 have G:cb ins.length gs:=G
 have du:eK ins.length gs root S=out:=du
 have hb:=G.j6
 have wg:ins.length<=1000/\gs.length<=1000:=by omega
 obtain ⟨N,hN⟩:∃N:Int,yq ⟨ins,gs,outs,dr⟩=N:=⟨_,rfl⟩
 have Jr:N=2+(ins.length:Int)+gs.length:=hN.symm
 have hNi:∀r:Int,r < N->r < 2+(ins.length:Int)+gs.length:=λr h=>by omega
 have hN6:∀r:Int,r < N->r < 600:=λr h=>by omega
 have hNe:∀R S,rU N R S=true->rU (2+(ins.length:Int)+gs.length) R S=true:=λR S h=>by rw [<-Jr];exact h
 have dx:rU N root S=false->out=none:=λh=>by rw [Jr] at h;rw [<-du];exact agx h
 refine ⟨?_⟩
 cbv
 refine ⟨λh=>?_,λh=>?_⟩
 ·have fL:root < 2:=aL
  obtain rfl:=dx (Hu λL=>by have:=L.lo;omega)
  cbv
  exact ⟨by exact bp⟩
 have fL:2<=root:=aL
 clear h
 cbv
 refine ⟨⟨ins,gs,outs,dr⟩,⟨by exact bp,wg⟩,?_⟩
 cbv
 refine ⟨λh=>?_,λh=>?_⟩
 ·have j5:yq ⟨ins,gs,outs,dr⟩<=root:=aL
  obtain rfl:=dx (Hu λL=>by have:=L.hi;omega)
  cbv
  exact ⟨by exact bp⟩
 have j5:root < yq ⟨ins,gs,outs,dr⟩:=aL
 have j5:root < N:=by omega
 clear h
 cbv
 refine ⟨λh=>?_,λh=>?_⟩
 ·have h4:(4:Int) < (S.length:Int):=aL
  have h4:4 < S.length:=by exact bT
  obtain rfl:=dx (Hu λL=>by have:=L.len;omega)
  cbv
  exact ⟨by exact bp⟩
 have h4:(S.length:Int)<=4:=aL
 have h4:S.length<=4:=by exact bT
 have Bc:=uJ.start root S
 clear h
 cbv
 refine Sat.cU (Rj 0 0) 2 8 [] (λi:Nat=>[(28,.sl 1 bC (λ_=>S)),(29,.i .i64 (λ_=>(S.length:Int))),(30,.i .i64 (λ_=>(i:Int)))]) (λ_=>[]) (λi=>uJ root S i) (λi=>S.length - i) 0 (by exact aM) (by exact aM) Bc ?_
 intro i hJ
 have hJ:uJ root S i:=hJ
 have bQ:=hJ.le
 have cZ:=n0 i
 have ei:=cX (i:=i) (by omega)
 cbv
 refine ⟨λh=>?_,λh=>?_⟩
 ·have uX:i < S.length:=aL
  have bX:S.length - (i+1) < S.length - i:=by omega
  refine (bK uX).elim λx hx=>?_
  clear h
  cbv
  refine ⟨x,⟨cZ,hx⟩,?_⟩
  cbv
  refine ⟨λh=>?_,λh=>?_⟩
  ·have jB:x < 2:=aL
   obtain rfl:=dx (ZG hx (.inl jB))
   cbv
   exact ⟨by exact bp⟩
  have jB:2<=x:=aL
  clear h
  cbv
  refine ⟨λh=>?_,λh=>?_⟩
  ·have wu:root < x:=aL
   obtain rfl:=dx (ZG hx (.inr wu))
   cbv
   exact ⟨by exact bp⟩
  have wu:x<=root:=aL
  clear h
  cbv
  refine ⟨λh=>?_,λh=>?_⟩
  ·have Up:(0:Int) < (i:Int):=aL
   have Up:0 < i:=by exact bT
   refine (bK (l:=S) (i:=i - 1) (by omega)).elim λp hp=>?_
   have hwp:IntKind.i64.wrap ((i:Int) - 1)=((i - 1:Nat):Int):=by rw [cW (by omega) (by omega)];omega
   have hpn:0<=IntKind.i64.wrap ((i:Int) - 1)/\S[(IntKind.i64.wrap ((i:Int) - 1)).toNat]?=some p:=by rw [hwp];exact ⟨n0 _,hp⟩
   clear h
   cbv
   refine ⟨p,⟨hpn⟩,?_⟩
   cbv
   refine ⟨λh=>?_,λh=>?_⟩
   ·have Uq:x<=p:=aL
    obtain rfl:=dx (akP Up hx hp Uq)
    cbv
    exact ⟨by exact bp⟩
   ·have Uq:p < x:=aL
    have gx:uJ root S (i+1)/\S.length - (i+1) < S.length - i:=⟨hJ.step hx jB wu λq _ hq=>by rw [hp] at hq;cases hq;exact Uq,bX⟩
    cbv
    exact ⟨i+1,by have bD:=ei;exact a8,by exact aM,⟨gx⟩⟩
  ·have Up:(i:Int)<=0:=aL
   have gx:uJ root S (i+1)/\S.length - (i+1) < S.length - i:=⟨hJ.step hx jB wu λq hq _=>by exfalso;exact bT,bX⟩
   cbv
   exact ⟨i+1,by have bD:=ei;exact a8,by exact aM,⟨gx⟩⟩
 have cz:S.length<=i:=aL
 have uY:rU (2+(ins.length:Int)+gs.length) root S=true:=hNe _ _ (hJ.fin cz fL j5 h4)
 have Bb:S.Nodup:=(zy.1 uY).inc.nodup
 have hSm:=(zy.1 uY).mem
 have A8:Na ⟨ins,gs,outs,dr⟩ S root/\root.toNat<=root.toNat:=⟨⟨G,hS,ua (by decide) fL,hNi root j5⟩,fb _⟩
 clear h
 cbv
 refine fh.uT (abE root.toNat) (λa y=>trivial) ⟨⟨ins,gs,outs,dr⟩,S,⟨λ_=>none,λ_=>none⟩,root⟩ [1,5,3,4,2,0,6] rfl (by exact bp) (by exact aM) ⟨A8⟩ λy hy=>?_
 obtain ⟨res,⟨Is,Rs⟩⟩:=y
 have hy:oz ins.length gs S ⟨λ_=>none,λ_=>none⟩ root res ⟨Is,Rs⟩:=hy.out
 cbv
 refine ⟨λh=>?_,λh=>?_⟩
 ·have hr:res=false:=by have h':(!res)=true:=h.out;simpa using h'
  subst hr
  obtain ⟨w,kO,n7⟩:=hy.no rfl
  obtain rfl:out=none:=by rw [<-du];exact ajg G kO n7
  cbv
  exact ⟨by exact bp⟩
 have hr:res=true:=by have h':(!res)=false:=h.out;simpa using h'
 subst hr
 have hC:=Mv.of G fL hy
 have xn:=amc (rch:=Rs) Bb (λu hu=>((hC.rch u).1 hu).2.2)
 have aO:=@filter_lt _ (λx=>(Rs x).isSome) S
 have cz:=@ain _ (λx=>(Rs x).isSome) S
 obtain ⟨ks,hk⟩:∃ks,S.filter (λx=>(Rs x).isSome)=ks:=⟨_,rfl⟩
 rw [hk] at xn aO cz
 have RS:∀x∈S,(Rs x).isSome=false->out=none:=λx hx hf=>by
  rw [<-du]
  refine ah8 G hx λhr=>?_
  have:=(hC.rch x).2 ⟨by have:=hSm x hx;omega,hr,hx⟩
  rw [hf] at this;cases this
 have eG:(∀x∈S,(Rs x).isSome=true)->∃l,out=some l/\dU l/\∀u:Int,u∈l↔(Is u).isSome=true:=λha=>by
  obtain ⟨l,h1,h2,h3⟩:=ah9 G uY hC λx hx=>((hC.rch x).1 (ha x hx)).2.1
  exact ⟨l,by rw [<-du];exact h1,h2,h3⟩
 have hkn:ks.Nodup/\∀n,n∈ks↔(Rs n).isSome=true:=⟨xn.nd,xn.mem⟩
 clear h
 cbv
 refine ⟨ks,⟨hkn⟩,?_⟩
 cbv
 refine ⟨λh=>?_,λh=>?_⟩
 ·have hl:ks.length < S.length:=aL
  obtain ⟨x,hx,hf⟩:=aO hl
  obtain rfl:=RS x hx hf
  cbv
  exact ⟨by exact bp⟩
 have hl:S.length<=ks.length:=aL
 obtain ⟨l,rfl,Ge,zc⟩:=eG (cz hl)
 clear h
 cbv
 refine Sat.freeze 2 rfl rfl ?_
 refine Sat.jN (amd 0 0) ?_
 cbv
 refine Sat.Cw 13 3 1 wV cP rfl ?_
 cbv
 have hlen:l.length<=1000000:=by
  have h1:l.length<=(List.range (root.toNat+1)).length:=by
   have h2:(l.map Int.toNat).Nodup:=by
    refine (qT.2 ((Pn.2 ⟨Ge,WM (r:=λa b=>0<=a/\0<=b) λa ha b hb=>?_⟩).imp λ⟨a,b⟩=>by omega))
    have h3:=((hC.ins a).1 ((zc a).1 ha)).1
    have h4:=((hC.ins b).1 ((zc b).1 hb)).1
    omega
   have:=BP h2 (l₂:=List.range (root.toNat+1)) λw hw=>by
    obtain ⟨u,hu,rfl⟩:=iM.1 hw
    have h3:=((hC.ins u).1 ((zc u).1 hu)).2.1
    have:=gG.le G h3
    exact mQ.2 (by omega)
   rwa [jP] at this
  rw [G6] at h1
  have:=hN6 root j5
  omega
 refine Sat.cU (Rj 0 0) 9 8 [(.t 13,8)] (λ_:List Int=>[(13,.own 8),(71,.ptr 7 0)]) (λsn=>[(7,.iter (.int .i64) II (λ_=>Is) (λ_=>sn) none),(8,.dyn 3 1 bC (λ_=>sn))]) (λsn=>(∀n∈sn,n∈l)/\sn.Nodup) (λsn=>l.length - sn.length) [] (by exact aM) (by exact aM) ⟨λn hn=>(by cases hn),zA⟩ ?_
 rintro sn ⟨tq,nC⟩
 have tq:∀n∈sn,n∈l:=tq
 have nC:sn.Nodup:=nC
 have gS:sn.length<=l.length:=BP nC tq
 cbv
 refine ⟨λh=>?_,λn t h=>?_⟩
 ·have hov:∀n t,Is n=some t->n∈sn:=h.out
  have hsm:si sn=l:=akQ Ge nC λu=>⟨tq u,λhu=>by
   have:=(zc u).1 hu
   cases hq:Is u with
   | none=>rw [hq] at this;cases this
   | some t=>exact hov u t hq⟩
  have uL:sn.length < 4611686018427387904:=by omega
  clear h
  cbv
  refine fh.uT Rc (λa y=>trivial) sn [8] rfl (by exact bp) (by exact aM) ⟨uL⟩ λy _=>?_
  cbv
  exact ⟨by have jM:=hsm;exact cd⟩
 ·obtain ⟨g1,g2⟩:Is n=some t/\n∉sn:=h.out
  have v8:n∈l:=(zc n).2 (by rw [g1];rfl)
  have fM:(sn++[n]).Nodup:=KS.2 ⟨nC,by simp,λa ha b hb e=>by simp at hb;subst hb;subst e;exact g2 ha⟩
  have hms:∀q∈sn++[n],q∈l:=λq hq=>by
   rcases dD.1 hq with hq|hq
   ·exact tq q hq
   ·simp at hq;subst hq;exact v8
  have mD:(sn++[n]).length<=l.length:=BP fM hms
  have FL:(sn++[n]).length=sn.length+1:=by simp
  have b1:(sn.length+1)*8<=140737488355328:=by omega
  have b2:sn.length+1<=9223372036854775807:=by omega
  have gx:((∀q∈sn++[n],q∈l)/\(sn++[n]).Nodup)/\l.length - (sn++[n]).length < l.length - sn.length:=⟨⟨hms,fM⟩,by omega⟩
  clear h
  cbv
  refine ⟨[n],⟨by exact bp,b1,b2⟩,?_⟩
  cbv
  exact ⟨sn++[n],by exact aM,by exact a8,⟨gx⟩⟩
theorem aio {o A B C A' B' C':Int} (hA:A=A') (hB:2<=jt o->B=B') (hC:3<=jt o->C=C'):combineM o A B C=combineM o A' B' C':=by
 subst hA
 unfold jt at hB hC
 unfold combineM
 by_cases h1:o=1
 ·rw [if_pos h1,if_pos h1]
 ·rw [if_neg h1,if_neg h1]
  rw [if_neg h1] at hB hC
  by_cases h2:o=2\/o=3\/o=4
  ·rw [if_pos h2] at hB
   rw [hB (fb _)]
   rcases h2 with h|h|h<;>subst h<;>simp
  ·rw [if_neg h2] at hB hC
   rw [hB (by omega),hC (by omega)]
theorem ajC {I:Nat} {gs:List Gate} {S:List Int} (hn:S.Nodup) {i:Nat} {x:Int} (hx:S[i]?=some x) (h0:0<=x):iz I gs S x.toNat=vB i:=by
 obtain ⟨aO,nW⟩:=a7.1 hx
 have h:S.findIdx? (λy=>decide (y=((x.toNat:Nat):Int)))=some i:=by
  rw [Ep]
  refine ⟨aO,by rw [nW];simp;omega,λj hj=>?_⟩
  have:=qj.1 hn j i (by omega) aO hj
  simp only [Bool.not_eq_true,decide_eq_false_iff_not]
  rw [Int.toNat_of_nonneg h0,<-nW];exact this
 rw [Ls]
 unfold E5
 rw [h]
theorem aav {S:List Int} {v:Nat} (h:(v:Int)∉S):S.findIdx? (λy=>decide (y=(v:Int)))=none:=by
 rw [zM]
 intro x hx
 exact decide_eq_false λe=>h (e ▸ hx)
theorem aoa {I:Nat} {gs:List Gate} {S:List Int} (h:∀x∈S,2<=x):iz I gs S 0=0:=by
 rw [Ls];unfold E5
 have hg:fy I gs 0=none:=by unfold fy;rw [if_pos (by omega)]
 rw [aav λhm=>by have:=h _ hm;omega]
 simp only [hg]
 rfl
theorem aob {I:Nat} {gs:List Gate} {S:List Int} (h:∀x∈S,2<=x):iz I gs S 1=-1:=by
 rw [Ls];unfold E5
 rw [aav λhm=>by have:=h _ hm;omega]
 rfl
def vW (m:Int->Option Int) (v t:Int):Int->Option Int:=λj=>if j=v then some t else m j
theorem QN (m:Int->Option Int) (v t:Int):vW m v t v=some t:=by unfold vW;rw [if_pos rfl]
theorem B9 {m:Int->Option Int} {v t u:Int} (h:u≠v):vW m v t u=m u:=by unfold vW;rw [if_neg h]
structure wA (S:List Int) (j:Nat) (m:Int->Option Int):Prop where
 le:j<=S.length
 zero:m 0=some 0
 one:m 1=some (-1)
 leaf:∀i x,i < j->S[i]?=some x->m x=some (vB i)
theorem wA.step {S:List Int} {j:Nat} {m:Int->Option Int} (h:wA S j m) (hn:S.Nodup) (h2:∀x∈S,2<=x) {x:Int} (hx:S[j]?=some x):wA S (j+1) (vW m x (vB j)):=by
 have jB:=h2 x (cf hx)
 obtain ⟨aO,jD⟩:=a7.1 hx
 refine ⟨aO,by rw [B9 (by omega)];exact h.zero,by rw [B9 (by omega)];exact h.one,λi y hi hy=>?_⟩
 by_cases e:i=j
 ·subst e;rw [hx] at hy;cases hy;exact QN _ _ _
 ·obtain ⟨bQ,hyi⟩:=a7.1 hy
  have:=qj.1 hn i j bQ aO (by omega)
  rw [B9 (by rw [<-hyi,<-jD];exact this)]
  exact h.leaf i y (by omega) hy
structure qc (I:Nat) (gs:List Gate) (S l:List Int) (i:Nat) (m:Int->Option Int):Prop where
 le:i<=l.length
 lo:∀u:Int,0<=u->u < 2->m u=some (iz I gs S u.toNat)
 leaf:∀u∈S,m u=some (iz I gs S u.toNat)
 nd:∀u∈l.take i,m u=some (iz I gs S u.toNat)
theorem wA.fin {I:Nat} {gs:List Gate} {S:List Int} {j:Nat} {m:Int->Option Int} (h:wA S j m) (hj:S.length<=j) (hn:S.Nodup) (h2:∀x∈S,2<=x) (l:List Int):qc I gs S l 0 m:=by
 refine ⟨cg _,λu h0 h1=>?_,λu hu=>?_,by simp⟩
 ·rcases (by omega:u=0\/u=1) with rfl|rfl
  ·rw [h.zero];exact congrArg some (aoa h2).symm
  ·rw [h.one];exact congrArg some (aob h2).symm
 ·obtain ⟨i,hi⟩:=lN hu
  rw [h.leaf i u (by have:=(a7.1 hi).1;omega) hi,ajC hn hi (by have:=h2 u hu;omega)]
theorem qc.step {I:Nat} {gs:List Gate} {S l:List Int} {i:Nat} {m:Int->Option Int} (h:qc I gs S l i m) {v:Int} (hv:l[i]?=some v) (h2:2<=v) (hm:v∉S):qc I gs S l (i+1) (vW m v (iz I gs S v.toNat)):=by
 refine ⟨(a7.1 hv).1,λu h0 h1=>by rw [B9 (by omega)];exact h.lo u h0 h1,λu hu=>by rw [B9 λe=>hm (by rw [<-e];exact hu)];exact h.leaf u hu,λu hu=>?_⟩
 by_cases e:u=v
 ·subst e;exact QN _ _ _
 ·rw [B9 e]
  rw [kf,hv] at hu
  rcases dD.1 hu with hu|hu
  ·exact h.nd u hu
  ·simp at hu;exact absurd hu e
theorem qc.op {I:Nat} {gs:List Gate} (G:cb I gs) {S l:List Int} {root:Int} (hc:eK I gs root S=some l) {i:Nat} {m:Int->Option Int} (h:qc I gs S l i m) {v:Int} (hv:l[i]?=some v) {g:Gate} (hg:fy I gs v.toNat=some g) (h7:g.op≠7) {o:Int} (ho:o∈ca g):m o=some (iz I gs S o.toNat):=by
 obtain ⟨kp,fi⟩:=zK G hc
 obtain ⟨qE,Dt,Gd⟩:=(fi v).1 (cf hv)
 have Du:((v.toNat:Nat):Int)=v:=Int.toNat_of_nonneg (by omega)
 have hon:o∈nZ I gs S v.toNat:=qp.2 ⟨by rw [Du];exact Gd,g,hg,h7,ho⟩
 have aO:=Ci G hon
 by_cases h1:o < 2
 ·exact h.lo o aO.1 h1
 ·by_cases h2:o∈S
  ·exact h.leaf o h2
  ·have fj:o∈l:=(fi o).2 ⟨by omega,.step Dt hon,h2⟩
   obtain ⟨j,hj⟩:=lN fj
   obtain ⟨dG,pj⟩:=a7.1 hj
   obtain ⟨bQ,nT⟩:=a7.1 hv
   have l8:j < i:=by
    rcases G5 j i with q|q|q
    ·exact q
    ·subst q;rw [pj] at nT;omega
    ·have:=qj.1 kp i j bQ dG q;omega
   refine h.nd o (cf (i:=j) ?_)
   rw [lO,if_pos l8];exact hj
theorem DX {I:Nat} {gs:List Gate} {S l:List Int} {root:Int} (h:eK I gs root S=some l):Ah (2+I+gs.length) root S:=by
 unfold eK at h
 split at h
 ·exact zy.1 (by assumption)
 ·cases h
theorem XB {I:Nat} {gs:List Gate} (G:cb I gs) {S l:List Int} {root:Int} (h:eK I gs root S=some l):root∈S\/root∈l:=by
 have hL:=DX h
 by_cases hm:root∈S
 ·exact .inl hm
 ·exact .inr (((zK G h).2 root).2 ⟨hL.lo,.base rfl,hm⟩)
theorem abF (g:Gate):g.a∈ca g:=by unfold ca jt;split<;>(try split)<;>simp
theorem abG {g:Gate} (h:2<=jt g.op):g.b∈ca g:=by
 unfold ca jt at *
 split at h
 ·omega
 ·split at h<;>simp_all
theorem abH {g:Gate} (h:3<=jt g.op):g.c∈ca g:=by
 unfold ca jt at *
 split at h
 ·omega
 ·split at h
  ·omega
  ·simp_all
theorem YK {I:Nat} {gs:List Gate} (G:cb I gs) {S l:List Int} {root:Int} (h:eK I gs root S=some l):l.length<=600:=by
 have hL:=DX h
 have hb:=G.j6
 have h1:=hL.lo
 have h2:=hL.hi
 unfold eK at h
 split at h
 ·simp only at h
  split at h
  ·cases h
   rw [jP]
   refine ot (D9 _ _) ?_
   rw [G6];omega
  ·cases h
 ·cases h
theorem XC {I:Nat} {gs:List Gate} (G:cb I gs) {S l:List Int} {root:Int} (h:eK I gs root S=some l) {v:Int} (hv:v∈l):∃g,fy I gs v.toNat=some g/\g.op≠7:=by
 obtain ⟨h2,hr,hS⟩:=((zK G h).2 v).1 hv
 have Du:((v.toNat:Nat):Int)=v:=Int.toNat_of_nonneg (by omega)
 unfold eK at h
 split at h
 ·simp only at h
  split at h
  ·rename_i eG
   simp only [cG] at eG
   have:=gM.1 eG.1 v.toNat (mQ.2 (by have:=gG.le G hr;omega))
   rw [(vo G).2 hr] at this
   rcases vp.1 (by simpa using this) with q|q|q
   ·rw [Du] at q;exact absurd q hS
   ·omega
   ·exact q
  ·cases h
 ·cases h
structure aqi where
 n:Net
 root:Int
 S:List Int
 t:Int
 e:Int
structure SR (n:Net) (root:Int) (S:List Int) (t e:Int):Prop where
 G:cb n.ins.length n.aY
 gl:S.length<=1000000
 eq:nj n.ins.length n.aY root S=(t,e)
@[reducible] noncomputable def ac0:Vc.Spec where
 α:=aqi
 args x:=[.agg (jX x.n),.i .i64 (λ_=>x.root),.sl 1 bC (λ_=>x.S)]
 pre x:=SR x.n x.root x.S x.t x.e
 res x:=.cM [.i .i64 (λ_=>x.t),.i .i64 (λ_=>x.e)]
noncomputable def aqj (n m:Nat):Ctx:=dM n m [] [(241,acZ),(243,SI),(242,acK),(244,acL)]
theorem Rl (n m:Nat):CB PP (aqj n m):=dP n m trivial ⟨ame,aaf,alS,alT,trivial⟩
theorem amf:dt (PP ()) 187 ac0:=by
 refine e6 (Rl 0 0) (fo Tryz.func187) (λa=>⟨mr a.n,trivial,λx=>(cP x).1,trivial⟩) (λa=>⟨trivial,trivial,trivial⟩) ?_
 rintro ⟨⟨ins,gs,outs,dr⟩,root,S,t,e⟩ hx
 obtain ⟨G,hS,u6⟩:SR ⟨ins,gs,outs,dr⟩ root S t e:=hx
 have G:cb ins.length gs:=G
 have u6:nj ins.length gs root S=(t,e):=u6
 have hb:=G.j6
 rcases hc:eK ins.length gs root S with _|l
 ·have A0:Nc ⟨ins,gs,outs,dr⟩ root S none:=⟨G,hS,hc⟩
  unfold nj at u6
  rw [hc] at u6
  cases u6
  refine ⟨?_⟩
  cbv
  refine ⟨⟨⟨ins,gs,outs,dr⟩,root,S,none⟩,⟨by exact bp,A0⟩,?_⟩
  cbv
  exact ⟨by exact bp⟩
 have A0:Nc ⟨ins,gs,outs,dr⟩ root S (some l):=⟨G,hS,hc⟩
 have hL:=DX hc
 have Bb:=hL.inc.nodup
 have rC:∀x∈S,2<=x:=λx hx=>(hL.mem x hx).1
 have hS4:=hL.len
 obtain ⟨kp,fi⟩:=zK G hc
 have mJ:=YK G hc
 have hgN:∀v:Int,0<=v->∀g,fy ins.length gs v.toNat=some g->v < yq ⟨ins,gs,outs,dr⟩:=λv h0 g hg=>by
  obtain ⟨i,hi,iB⟩:=lB.1 hg
  have:=(a7.1 iB).1
  show v < 2+(ins.length:Int)+gs.length
  omega
 refine ⟨?_⟩
 cbv
 refine ⟨⟨⟨ins,gs,outs,dr⟩,root,S,some l⟩,⟨by exact bp,A0⟩,?_⟩
 cbv
 refine ⟨0,⟨by exact bp⟩,?_⟩
 cbv
 refine ⟨-1,⟨by exact bp⟩,?_⟩
 cbv
 refine Sat.cU (Rl 0 0) 2 11 [] (λy:Nat × (Int->Option Int)=>[(28,.sl 1 bC (λ_=>S)),(29,.i .i64 (λ_=>(S.length:Int))),(30,.i .i64 (λ_=>(y.1:Int)))]) (λy=>[(1,.map (.int .i64) bC (λ_=>y.2))]) (λy=>wA S y.1 y.2) (λy=>S.length - y.1) (0,vW (vW (λ_=>none) 0 0) 1 (-1)) (by exact aM) (by exact aM) ⟨cg _,rfl,rfl,λi x h=>absurd h (qn _)⟩ ?_
 rintro ⟨j,m⟩ hJ
 have hJ:wA S j m:=hJ
 have dG:=hJ.le
 have gV:=n0 j
 have jm:=cX (i:=j) (by omega)
 cbv
 refine ⟨λh=>?_,λh=>?_⟩
 ·have sq:j < S.length:=aL
  have bX:S.length - (j+1) < S.length - j:=by omega
  refine (bK sq).elim λx hx=>?_
  have hj4:j < 4:=by omega
  obtain ⟨C,hC⟩:∃C,vB j=C:=⟨_,rfl⟩
  have bV:=hJ.step Bb rC hx
  rw [hC] at bV
  obtain ⟨m2,mG⟩:∃m2,vW m x C=m2:=⟨_,rfl⟩
  rw [mG] at bV
  have Bd:(λk=>if k=x then some C else m k)=m2:=mG
  clear h
  cbv
  refine ⟨x,⟨gV,hx⟩,?_⟩
  cbv
  refine ⟨j,⟨by exact bp,hj4⟩,?_⟩
  cbv
  refine ⟨C,⟨by have bD:=hC;exact cd⟩,?_⟩
  cbv
  exact ⟨(j+1,m2),by have bD:=jm;exact a8,by have tB:=Bd;exact a8,⟨⟨bV,bX⟩⟩⟩
 have cz:S.length<=j:=aL
 have hT0:=hJ.fin (I:=ins.length) (gs:=gs) cz Bb rC l
 clear h gV jm
 cbv
 refine Sat.cU (Rl 0 0) 2 11 [] (λy:Nat × (Int->Option Int)=>[(40,.sl 1 bC (λ_=>l)),(41,.i .i64 (λ_=>(l.length:Int))),(42,.i .i64 (λ_=>(y.1:Int)))]) (λy=>[(1,.map (.int .i64) bC (λ_=>y.2))]) (λy=>qc ins.length gs S l y.1 y.2) (λy=>l.length - y.1) (0,m) (by exact aM) (by exact aM) hT0 ?_
 rintro ⟨i,m⟩ hT
 have hT:qc ins.length gs S l i m:=hT
 have bQ:=hT.le
 have cZ:=n0 i
 cbv
 refine ⟨λh=>?_,λh=>?_⟩
 ·have uX:i < l.length:=aL
  have bX:l.length - (i+1) < l.length - i:=by omega
  refine (bK uX).elim λv hv=>?_
  obtain ⟨qE,Dt,Gd⟩:=(fi v).1 (cf hv)
  obtain ⟨g,hg,h7⟩:=XC G hc (cf hv)
  have eM:0<=v:=ua (by decide) qE
  have gJ:rZ ⟨ins,gs,outs,dr⟩ v=(g,true):=by
   unfold rZ
   rw [show fy (Net.mk ins gs outs dr).ins.length (Net.mk ins gs outs dr).aY v.toNat=some g from hg]
   simp only [if_neg h7]
  have wg:ins.length<=1000/\gs.length<=1000/\0<=v/\v < yq ⟨ins,gs,outs,dr⟩/\rZ ⟨ins,gs,outs,dr⟩ v=(g,true):=⟨by omega,by omega,eM,hgN v eM g hg,gJ⟩
  have eQ:∀o∈ca g,m o=some (iz ins.length gs S o.toNat):=λo ho=>hT.op G hc hv hg h7 ho
  have hA:=eQ g.a (abF g)
  obtain ⟨ta,Tx⟩:∃ta,iz ins.length gs S g.a.toNat=ta:=⟨_,rfl⟩
  obtain ⟨R,hR⟩:∃R,iz ins.length gs S v.toNat=R:=⟨_,rfl⟩
  have MA:∀B C,(∀t,m g.b=some t->B=t)->(∀t,m g.c=some t->C=t)->combineM g.op ta B C=R:=λB C hB hC=>by
   rw [<-hR,Xv G (by rw [Int.toNat_of_nonneg eM];exact Gd) hg]
   exact aio Tx.symm (λh=>hB _ (eQ _ (abG h))) (λh=>hC _ (eQ _ (abH h)))
  have bV:=hT.step hv qE Gd
  rw [Tx] at hA
  rw [hR] at bV
  obtain ⟨m2,mG⟩:∃m2,vW m v R=m2:=⟨_,rfl⟩
  rw [mG] at bV
  have Bd:(λk=>if k=v then some R else m k)=m2:=mG
  have ei:=cX (i:=i) (by omega)
  have gx:qc ins.length gs S l (i+1) m2/\l.length - (i+1) < l.length - i:=⟨bV,bX⟩
  clear h
  rcases hB:m g.b with _|tb<;>rcases hC:m g.c with _|tc
  ·have l5:=MA 0 0 (λt h=>by rw [hB] at h;cases h) (λt h=>by rw [hC] at h;cases h)
   cbv
   refine ⟨v,⟨cZ,hv⟩,?_⟩
   cbv
   refine ⟨⟨⟨ins,gs,outs,dr⟩,v,g,true⟩,⟨by exact bp,wg⟩,?_⟩
   cbv
   refine ⟨some (some ta),⟨hA⟩,?_⟩
   cbv
   refine ⟨some none,⟨hB⟩,?_⟩
   cbv
   refine ⟨some none,⟨hC⟩,?_⟩
   cbv
   refine ⟨⟨g.op,ta,0,0,R⟩,⟨by exact bp,l5⟩,?_⟩
   cbv
   refine ⟨R,⟨by exact bp⟩,?_⟩
   cbv
   exact ⟨(i+1,m2),by have bD:=ei;exact a8,by have tB:=Bd;exact a8,⟨gx⟩⟩
  ·have l5:=MA 0 tc (λt h=>by rw [hB] at h;cases h) (λt h=>by rw [hC] at h;cases h;rfl)
   cbv
   refine ⟨v,⟨cZ,hv⟩,?_⟩
   cbv
   refine ⟨⟨⟨ins,gs,outs,dr⟩,v,g,true⟩,⟨by exact bp,wg⟩,?_⟩
   cbv
   refine ⟨some (some ta),⟨hA⟩,?_⟩
   cbv
   refine ⟨some none,⟨hB⟩,?_⟩
   cbv
   refine ⟨some (some tc),⟨hC⟩,?_⟩
   cbv
   refine ⟨⟨g.op,ta,0,tc,R⟩,⟨by exact bp,l5⟩,?_⟩
   cbv
   refine ⟨R,⟨by exact bp⟩,?_⟩
   cbv
   exact ⟨(i+1,m2),by have bD:=ei;exact a8,by have tB:=Bd;exact a8,⟨gx⟩⟩
  ·have l5:=MA tb 0 (λt h=>by rw [hB] at h;cases h;rfl) (λt h=>by rw [hC] at h;cases h)
   cbv
   refine ⟨v,⟨cZ,hv⟩,?_⟩
   cbv
   refine ⟨⟨⟨ins,gs,outs,dr⟩,v,g,true⟩,⟨by exact bp,wg⟩,?_⟩
   cbv
   refine ⟨some (some ta),⟨hA⟩,?_⟩
   cbv
   refine ⟨some (some tb),⟨hB⟩,?_⟩
   cbv
   refine ⟨some none,⟨hC⟩,?_⟩
   cbv
   refine ⟨⟨g.op,ta,tb,0,R⟩,⟨by exact bp,l5⟩,?_⟩
   cbv
   refine ⟨R,⟨by exact bp⟩,?_⟩
   cbv
   exact ⟨(i+1,m2),by have bD:=ei;exact a8,by have tB:=Bd;exact a8,⟨gx⟩⟩
  ·have l5:=MA tb tc (λt h=>by rw [hB] at h;cases h;rfl) (λt h=>by rw [hC] at h;cases h;rfl)
   cbv
   refine ⟨v,⟨cZ,hv⟩,?_⟩
   cbv
   refine ⟨⟨⟨ins,gs,outs,dr⟩,v,g,true⟩,⟨by exact bp,wg⟩,?_⟩
   cbv
   refine ⟨some (some ta),⟨hA⟩,?_⟩
   cbv
   refine ⟨some (some tb),⟨hB⟩,?_⟩
   cbv
   refine ⟨some (some tc),⟨hC⟩,?_⟩
   cbv
   refine ⟨⟨g.op,ta,tb,tc,R⟩,⟨by exact bp,l5⟩,?_⟩
   cbv
   refine ⟨R,⟨by exact bp⟩,?_⟩
   cbv
   exact ⟨(i+1,m2),by have bD:=ei;exact a8,by have tB:=Bd;exact a8,⟨gx⟩⟩
 have cz:l.length<=i:=aL
 have Dp:m root=some (iz ins.length gs S root.toNat):=by
  rcases XB G hc with q|q
  ·exact hT.leaf root q
  ·exact hT.nd root (by rw [iL cz];exact q)
 obtain ⟨tr,Gf⟩:∃tr,iz ins.length gs S root.toNat=tr:=⟨_,rfl⟩
 rw [Gf] at Dp
 unfold nj Ai at u6
 rw [hc,Gf] at u6
 obtain ⟨ht,he⟩:=Prod.mk.inj u6
 have s1:(0:Int)<=((S.length:Nat):Int):=n0 _
 have s3:0<=IntKind.u64.wrap (1*2^min ((S.length:Nat):Int).toNat IntKind.u64.bits)/\IntKind.i64.wrap (IntKind.i64.wrap (1*2^min (IntKind.u64.wrap (1*2^min ((S.length:Nat):Int).toNat IntKind.u64.bits)).toNat IntKind.i64.bits) - 1)=2^2^S.length - 1:=by
  have:S.length=0\/S.length=1\/S.length=2\/S.length=3\/S.length=4:=by omega
  rcases this with q|q|q|q|q<;>rw [q]<;>decide
 obtain ⟨s2,s4⟩:=s3
 have iJ:gg .and .i64 tr (IntKind.i64.wrap (IntKind.i64.wrap (1*2^min (IntKind.u64.wrap (1*2^min ((S.length:Nat):Int).toNat IntKind.u64.bits)).toNat IntKind.i64.bits) - 1))=t:=by rw [s4];exact ht
 clear h s4
 cbv
 refine ⟨some (some tr),⟨Dp⟩,?_⟩
 cbv
 exact ⟨⟨s1⟩,⟨s2⟩,⟨by have bD:=iJ;have iC:=he;exact cd⟩⟩
theorem WH {sig:Int->Option Int}:∀{S:List Int} {i:Nat} {x:Int},(∀j y,j < i->S[j]?=some y->(sig y).isSome=true)->S[i]?=some x->sig x=none->oy sig S=((S.take i).map λy=>(sig y).getD 0,false)
 | [],i,x,_,h,_=>by simp at h
 | y :: S,0,x,_,h,hn=>by
  simp at h;subst h
  unfold oy;rw [hn];rfl
 | y :: S,i+1,x,ha,h,hn=>by
  have hy:=ha 0 y (by omega) rfl
  obtain ⟨s,hs⟩:=sX.1 hy
  have ih:=WH (S:=S) (i:=i) (x:=x) (λj z hj hz=>ha (j+1) z (by omega) hz) h hn
  unfold oy
  simp only [hs,ih,List.take_succ_cons,iG,tX]
theorem ahB {sig:Int->Option Int} {S:List Int} (h:∀j y,j < S.length->S[j]?=some y->(sig y).isSome=true):oy sig S=(S.map λy=>(sig y).getD 0,true) :=
 GR λx hx=>by
  obtain ⟨j,hj⟩:=lN hx
  exact sX.1 (h j x (a7.1 hj).1 hj)
structure aqk where
 n:Net
 root:Int
 S:List Int
 sig:Int->Option Int
 c:Cell
 e:Int
structure Nd (n:Net) (root:Int) (S:List Int) (sig:Int->Option Int) (c:Cell) (e:Int):Prop where
 G:cb n.ins.length n.aY
 gl:S.length<=1000000
 lo:2+(n.ins.length:Int)<=root
 hi:root < 2+(n.ins.length:Int)+n.aY.length
 eq:cellOf n.ins.length n.aY root S sig=(c,e)
@[reducible] noncomputable def SU:Vc.Spec where
 α:=aqk
 args x:=[.agg (jX x.n),.i .i64 (λ_=>x.root),.sl 1 bC (λ_=>x.S),.mp (.int .i64) bC (λ_=>x.sig)]
 pre x:=Nd x.n x.root x.S x.sig x.c x.e
 res x:=.cM [.agg (mw x.c),.i .i64 (λ_=>x.e)]
noncomputable def aql (n m:Nat):Ctx:=dM n m [] [(186,M4),(96,SJ),(187,ac0)]
theorem aaw (n m:Nat):CB PP (aql n m):=dP n m trivial ⟨Rb,aag,amf,trivial⟩
theorem aax:dt (PP ()) 116 SU:=by
 refine e6 (aaw 0 0) (fo Tryz.func116) (λa=>⟨mr a.n,trivial,λx=>(cP x).1,λx=>(cP x).1,trivial⟩) (λa=>⟨(zT _).1,trivial,trivial⟩) ?_
 rintro ⟨⟨ins,gs,outs,dr⟩,root,S,sig,⟨ci,ct,cr⟩,e⟩ hx
 obtain ⟨G,hS,fL,j5,nA⟩:Nd ⟨ins,gs,outs,dr⟩ root S sig ⟨ci,ct,cr⟩ e:=hx
 have G:cb ins.length gs:=G
 have fL:2+(ins.length:Int)<=root:=fL
 have j5:root < 2+(ins.length:Int)+gs.length:=j5
 have nA:cellOf ins.length gs root S sig=(⟨ci,ct,cr⟩,e):=nA
 have hb:=G.j6
 obtain ⟨Rf,oO⟩:∃Rf:Nat->List Int,∀i,Rf i=(S.take i).map λy=>(sig y).getD 0:=⟨_,λ_=>rfl⟩
 have Gb:[]=Rf 0:=by rw [oO];rfl
 have Ds:∀(i:Nat) (x s:Int),S[i]?=some x->sig x=some s->Rf i++[s]=Rf (i+1):=λi x s hx hs=>by
  rw [oO,oO,kf,hx,pF,qm,iG,zC,hs];rfl
 have N4:∀i,i<=S.length->(Rf i).length=i:=λi hi=>by rw [oO,jP,jd];omega
 have RS:∀(i:Nat) (x:Int),(∀j y,j < i->S[j]?=some y->(sig y).isSome=true)->S[i]?=some x->sig x=none->Rf i=ci/\0=ct/\-1=cr/\260=e:=λi x h1 h2 h3=>by
  have hc:=nA
  unfold cellOf at hc
  rw [WH h1 h2 h3,<-oO] at hc
  simp only [oX,if_false,Prod.mk.injEq,Cell.mk.injEq] at hc
  obtain ⟨⟨a,b,c⟩,d⟩:=hc
  exact ⟨a,b,c,d⟩
 obtain ⟨A,hA⟩:∃A,Rf S.length=A:=⟨_,rfl⟩
 have iB:root.toNat - 2 - ins.length < gs.length:=by omega
 obtain ⟨g,hg⟩:=bK (l:=gs) iB
 have hga:fy ins.length gs root.toNat=some g:=lB.2 ⟨_,by omega,hg⟩
 obtain ⟨tt,te,htt⟩:∃tt te,nj ins.length gs root S=(tt,te):=⟨_,_,rfl⟩
 have aqm:(∀j y,j < S.length->S[j]?=some y->(sig y).isSome=true)->(if g.op=7 then ((⟨A,0,g.n⟩:Cell),if S=ca g then (0:Int) else 260) else if S=[root] then (⟨A,0,-1⟩,260) else (⟨A,tt,-1⟩,if te=0 then 0 else 260))=(⟨ci,ct,cr⟩,e):=λh=>by
  have hc:=nA
  unfold cellOf at hc
  have hm:S.map (λy=>(sig y).getD 0)=A:=by rw [<-hA,oO,x3]
  rw [ahB h,hm] at hc
  simp only [if_true,hga,htt] at hc
  exact hc
 have w1:IntKind.i64.wrap (root - 2)=root - 2:=cW (by omega) (by omega)
 have w2:IntKind.i64.wrap (IntKind.i64.wrap (root - 2) - (ins.length:Int))=root - 2 - ins.length:=by rw [w1];exact cW (by omega) (by omega)
 have IZ:0<=IntKind.i64.wrap (IntKind.i64.wrap (root - 2) - (ins.length:Int))/\gs[(IntKind.i64.wrap (IntKind.i64.wrap (root - 2) - (ins.length:Int))).toNat]?=some g:=by
  rw [w2]
  refine ⟨by omega,?_⟩
  rw [show (root - 2 - (ins.length:Int)).toNat=root.toNat - 2 - ins.length by omega];exact hg
 have rC:S.length<=1000000000000:=by omega
 clear nA hga
 refine ⟨?_⟩
 cbv
 refine Sat.ox 2 0 3 1 wV cP rfl rfl ?_
 cbv
 refine Sat.cU (aaw 0 0) 4 11 [(.c 2 0,3)] (λi:Nat=>[(18,.sl 1 bC (λ_=>S)),(19,.i .i64 (λ_=>(S.length:Int))),(20,.i .i64 (λ_=>(i:Int)))]) (λi=>[(2,.fix 135 [.own 3,.ic .i64 0,.ic .i64 (-1)]),(3,.dyn 3 1 bC (λ_=>Rf i))]) (λi=>i<=S.length/\∀j y,j < i->S[j]?=some y->(sig y).isSome=true) (λi=>S.length - i) 0 (by exact aM) (by have fq:=Gb;exact a8) ⟨cg _,λj y h=>absurd h (qn _)⟩ ?_
 intro i hi
 obtain ⟨hi,Ur⟩:i<=S.length/\∀j y,j < i->S[j]?=some y->(sig y).isSome=true:=hi
 have cZ:=n0 i
 have ei:=cX (i:=i) (by omega)
 have hRi:=N4 i hi
 have b1:((Rf i).length+1)*8<=140737488355328:=by omega
 have b2:(Rf i).length+1<=9223372036854775807:=by omega
 cbv
 refine ⟨λh=>?_,λh=>?_⟩
 ·have bQ:i < S.length:=aL
  have bX:S.length - (i+1) < S.length - i:=by omega
  refine (bK bQ).elim λx hx=>?_
  clear h
  rcases hs:sig x with _|s
  ·obtain ⟨e1,e2,e3,e4⟩:=RS i x Ur hx hs
   cbv
   refine ⟨x,⟨cZ,hx⟩,?_⟩
   cbv
   refine ⟨some none,⟨hs⟩,?_⟩
   cbv
   exact ⟨by have jM:=e1;have iC:=e2;have A4:=e3;have NL:=e4;exact cd⟩
  ·have wx:=Ds i x s hx hs
   have bV:(i+1<=S.length/\∀j y,j < i+1->S[j]?=some y->(sig y).isSome=true)/\S.length - (i+1) < S.length - i:=⟨⟨bQ,λj y hj hy=>by
    by_cases q:j=i
    ·subst q;rw [hx] at hy;cases hy;rw [hs];rfl
    ·exact Ur j y (by omega) hy⟩,bX⟩
   cbv
   refine ⟨x,⟨cZ,hx⟩,?_⟩
   cbv
   refine ⟨some (some s),⟨hs⟩,?_⟩
   cbv
   refine ⟨[s],⟨by exact bp,b1,b2⟩,?_⟩
   cbv
   exact ⟨i+1,by have bD:=ei;exact a8,by have fq:=wx;exact a8,⟨bV⟩⟩
 have cz:S.length<=i:=aL
 have hiS:i=S.length:=by omega
 subst hiS
 have hf:=aqm Ur
 obtain ⟨O,hO⟩:∃O,ca g=O:=⟨_,rfl⟩
 have hOl:O.length<=1000000000000:=by have:=(s7 g).2;rw [hO] at this;omega
 rw [hO] at hf
 clear h
 cbv
 refine ⟨g,⟨IZ⟩,?_⟩
 cbv
 refine ⟨λh=>?_,λh=>?_⟩
 ·have h7:g.op=7:=aL
  rw [if_pos h7] at hf
  obtain ⟨⟨e1,e2,e3⟩,e4⟩:(A=ci/\0=ct/\g.n=cr)/\(if S=O then (0:Int) else 260)=e:=by simpa only [Prod.mk.injEq,Cell.mk.injEq] using hf
  have e1:=hA.trans e1
  clear h
  cbv
  refine ⟨g,⟨by exact bp,trivial⟩,?_⟩
  cbv
  refine ⟨⟨S,O⟩,⟨by have jM:=hO;exact cd,⟨rC,hOl⟩⟩,?_⟩
  cbv
  refine ⟨λh=>?_,λh=>?_⟩
  ·have bO:¬S=O:=by have h':(!decide (S=O))=true:=h.out;simpa using h'
   rw [if_neg bO] at e4
   cbv
   exact ⟨by have jM:=e1;have iC:=e2;have bD:=e3;have A4:=e4;exact cd⟩
  ·have heq:S=O:=by have h':(!decide (S=O))=false:=h.out;simpa using h'
   rw [if_pos heq] at e4
   cbv
   exact ⟨by have jM:=e1;have iC:=e2;have bD:=e3;have A4:=e4;exact cd⟩
 have h7:¬g.op=7:=aL
 rw [if_neg h7] at hf
 have xI:([root]:List Int).length<=1000000000000:=by show 1<=1000000000000;decide
 clear h
 cbv
 refine ⟨⟨S,[root]⟩,⟨.inl ⟨by exact bp,rfl⟩,⟨rC,xI⟩⟩,?_⟩
 cbv
 refine ⟨λh=>?_,λh=>?_⟩
 ·have heq:S=[root]:=by have h':decide (S=[root])=true:=h.out;simpa using h'
  rw [if_pos heq] at hf
  obtain ⟨⟨e1,e2,e3⟩,e4⟩:(A=ci/\0=ct/\-1=cr)/\(260:Int)=e:=by simpa only [Prod.mk.injEq,Cell.mk.injEq] using hf
  have e1:=hA.trans e1
  cbv
  exact ⟨by have jM:=e1;have iC:=e2;have A4:=e3;have NL:=e4;exact cd⟩
 have bO:¬S=[root]:=by have h':decide (S=[root])=false:=h.out;simpa using h'
 rw [if_neg bO] at hf
 obtain ⟨⟨e1,e2,e3⟩,e4⟩:(A=ci/\tt=ct/\-1=cr)/\(if te=0 then (0:Int) else 260)=e:=by simpa only [Prod.mk.injEq,Cell.mk.injEq] using hf
 have e1:=hA.trans e1
 have F3:SR ⟨ins,gs,outs,dr⟩ root S tt te:=⟨G,hS,htt⟩
 clear h
 cbv
 refine ⟨⟨⟨ins,gs,outs,dr⟩,root,S,tt,te⟩,⟨by exact bp,F3⟩,?_⟩
 cbv
 refine ⟨λh=>?_,λh=>?_⟩
 ·have u6:¬te=0:=aL
  rw [if_neg u6] at e4
  cbv
  exact ⟨by have jM:=e1;have bD:=e2;have iC:=e3;have A4:=e4;exact cd⟩
 ·have u6:te=0:=aL
  rw [if_pos u6] at e4
  cbv
  exact ⟨by have jM:=e1;have bD:=e2;have iC:=e3;have A4:=e4;exact cd⟩
end Go.Proofs.Pk
