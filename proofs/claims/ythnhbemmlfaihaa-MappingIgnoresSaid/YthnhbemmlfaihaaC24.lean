import Derived.Test.YthnhbemmlfaihaaC13
import Derived.Test.YthnhbemmlfaihaaC14
import Derived.Test.YthnhbemmlfaihaaC15
import Derived.Test.YthnhbemmlfaihaaC17
import Derived.Test.YthnhbemmlfaihaaC23
set_option linter.unusedVariables false
set_option linter.unusedSimpArgs false
set_option maxRecDepth 10000
set_option maxHeartbeats 64000000
namespace Go.Proofs.Pk
open Go Go.Vc
theorem abN {s s':dJ} {g:Gate} (h:rN s g=some s'):∃l,s'.labels=s.labels++[1+bY s.labels l]:=by
 unfold rN at h
 dsimp only at h
 split at h
 ·cases h;exact ⟨_,rfl⟩
 ·split at h
  ·cases h
  ·split at h
   ·cases h
   ·cases h;exact ⟨_,rfl⟩
theorem UI {I:Nat}:∀(n:Nat) {gs:List Gate} {s:dJ},gs.length=n->iF I gs=some s->∀x∈s.labels,x<=(n:Int)
 | 0,gs,s,hl,h,x,hx=>by
  obtain rfl:=gL hl
  cases h
  have:=(Bk.1 hx).2
  omega
 | n+1,gs,s,hl,h,x,hx=>by
  rcases List.eq_nil_or_concat gs with rfl|⟨hs,g,rfl⟩
  ·simp at hl
  rw [List.concat_eq_append] at h hl
  rw [DV] at h
  cases hp:iF I hs with
  | none=>rw [hp] at h;cases h
  | some s0 =>
   rw [hp] at h
   have yj:hs.length=n:=by simp at hl;omega
   have ih:=UI n yj hp
   obtain ⟨l,e⟩:=abN (show rN s0 g=some s from h)
   rw [e] at hx
   rcases eA.1 hx with hx|hx
   ·have:=ih x hx;omega
   ·rw [qD] at hx
    have:bY s0.labels l<=(n:Int):=w9 (by omega) λv _=>by
     rw [List.getD_eq_getElem?_getD]
     cases hv:s0.labels[v.toNat]? with
     | none=>show (0:Int)<=n;omega
     | some y=>exact ih y (cL hv)
    omega
theorem TS:∀(U N:List (List Int)),(U.foldl qJ N).length<=N.length+U.length
 | [],N=>fP _
 | u :: U,N=>by
  rw [mj]
  have h1:=TS U (qJ N u)
  have h2:(qJ N u).length<=N.length+1:=by
   unfold qJ
   split
   ·exact TR N u
   ·omega
  rw [oy];omega
theorem TT (Co:List (List Int)):∀A:List (List Int),(A.flatMap λa=>Co.map λb=>jP a b).length=A.length*Co.length
 | []=>by simp
 | a :: A=>by
  rw [oZ,fJ,TT Co A,kr,oy,Nat.add_mul];omega
theorem acw (A Co:List (List Int)):(pY A Co).length<=A.length*Co.length:=by
 have:=TS (A.flatMap λa=>Co.map λb=>jP a b) []
 rw [TT,A4,mU] at this
 exact this
theorem TU {C:List (List (List Int))} (hC:∀c∈C,c.length<=400):∀(ops:List Int) (A:List (List Int)),(ops.foldl (λall o=>pY all (C.getD o.toNat [])) A).length<=A.length*400^ops.length
 | [],A=>by simp
 | o :: r,A=>by
  rw [mj]
  have h1:=TU hC r (pY A (C.getD o.toNat []))
  have h2:(C.getD o.toNat []).length<=400:=by
   rw [List.getD_eq_getElem?_getD]
   cases h:C[o.toNat]? with
   | none=>exact cK _
   | some c=>exact hC c (cL h)
  have h3:=mV (acw A (C.getD o.toNat [])) (Nat.mul_le_mul_left A.length h2)
  have h4:=ud (400^r.length) h3
  rw [oy,Nat.pow_succ,Nat.mul_comm (400^r.length) 400,<-Nat.mul_assoc]
  exact mV h1 h4
theorem abO {C:List (List (List Int))} (hC:∀c∈C,c.length<=400) {ops:List Int} (ho:ops.length<=3):(nO C ops).length<=100000000:=by
 unfold nO
 rw [(wX _).length_eq]
 have h1:=TU hC ops [[]]
 have h2:400^ops.length<=400^3:=Lc (by omega) ho
 have h3:(400:Nat)^3=64000000:=by decide
 simp only [yY,Nat.one_mul] at h1
 omega
theorem cv.take {I:Nat} {gs:List Gate} (G:cv I gs) (j:Nat):cv I (gs.take j):=cv.left (hs:=gs.drop j) (by rw [List.take_append_drop];exact G)
theorem SO {A:Type} {l:List A} {j:Nat} {x:A} (h:l[j]?=some x):l.take (j+1)=l.take j++[x]:=by rw [jm,h];rfl
theorem aeR {n:Net} (G:cv n.ins.length n.bU) {j:Nat} (hj:j < n.bU.length) {s:dJ} (hs:iF n.ins.length (n.bU.take j)=some s):Cc n s (2+n.ins.length+j) (iF n.ins.length (n.bU.take (j+1))):=by
 have Oe:=G.oR
 have Gt:=G.take j
 have iZ:=Bu _ rfl Gt hs
 have PH:(n.bU.take j).length=j:=by rw [lQ];omega
 have zL:∀x∈s.labels,0<=x/\x<=1000000:=λx hx=>by
  have h1:=UI _ PH hs x hx
  have h2:=iZ.pos x hx
  omega
 have nm:=iZ.len
 have jX:=iZ.B6
 have Ai:=iZ.ni
 rw [PH] at nm jX Ai
 have hg:∀g,n.bU[2+n.ins.length+j - 2 - n.ins.length]?=some g->n.bU[j]?=some g:=λg h=>by rw [<-h];congr 1;omega
 have fN:∀l:List Int,l.length<=4->(∀x∈l,0<=x/\x < 2+(n.ins.length:Int)+j)->kD s.labels l:=λl h1 h2=>⟨by omega,λv hv=>by have:=h2 v hv;rw [nm];omega,zL⟩
 refine ⟨by omega,nm,jX,Ai,by omega,by omega,λh=>by omega,λg _ h=>?_,λg _ h _=>?_,λg _ h h7=>?_⟩
 ·rw [SO (hg g h),DV,hs];rfl
 ·have ho:=y6 g
  exact fN _ (by omega) (G.ops (hg g h))
 ·have Fs:=hg g h
  have ho:=y6 g
  have e8:=G.ops Fs
  have G1:cv n.ins.length (n.bU.take j++[g]):=by rw [<-SO Fs];exact G.take (j+1)
  have hM:=LU Gt iZ (m:=2+n.ins.length+j) (by rw [PH];omega) (l:=cI g) (λo ho=>by have:=e8 o ho;omega)
  refine ⟨⟨ho.2,λo ho=>by have:=e8 o ho;rw [jX];omega,iZ.jt,λc hc l hl=>?_,rfl,?_⟩,abO iZ.jt ho.2,λy hy=>fN y (hM.len y hy) λx hx=>by have:=hM.lim y hy x hx;omega⟩
  ·obtain ⟨v,hv⟩:=qC hc
   exact (iZ.cut v c hv).1.len l hl
  ·exact List.length_pos_iff.2 (acd G1 iZ)
theorem abl (k:Nat):jU (k+1)=⟨(jU k).labels++[0],(jU k).e6++[[[2+(k:Int)]]],(jU k).leaves++[[]]⟩:=by
 simp only [jU,dJ.mk.injEq]
 refine ⟨?_,?_,?_⟩
 ·rw [<-Nat.add_assoc,List.replicate_succ']
 ·rw [Lw,vy,vx];rfl
 ·rw [<-Nat.add_assoc,List.replicate_succ']
theorem adL {n:Net} (hb:n.ins.length+n.bU.length<=1000000) {k:Nat} (hk:k < n.ins.length):Cc n (jU k) (2+k) (some (jU (k+1))):=by
 refine ⟨by omega,by simp [jU],by simp [jU];omega,by simp [jU],hb,by omega,λ_=>?_,λg h=>by omega,λg h=>by omega,λg h=>by omega⟩
 rw [abl,Int.natCast_add];rfl
def lD (I:Nat) (gs:List Gate) (k:Nat):Option dJ:=if k<=I then some (jU k) else iF I (gs.take (k - I))
theorem Vs (I:Nat) (gs:List Gate):lD I gs 0=some (jU 0):=by unfold lD;rw [if_pos (cK _)]
theorem MG {I:Nat} {gs:List Gate} {j:Nat}:lD I gs (I+j)=iF I (gs.take j):=by
 unfold lD
 split
 ·have:j=0:=by omega
  subst this;rfl
 ·rw [K6]
theorem adM {I:Nat} {gs:List Gate} {k:Nat} (h:I+gs.length<=k):lD I gs k=iF I gs:=by
 obtain ⟨j,rfl⟩:∃j,k=I+j:=⟨k - I,by omega⟩
 rw [MG,jj (by omega)]
theorem SP {I:Nat}:∀(hs gs:List Gate),iF I gs=none->iF I (gs++hs)=none
 | [],gs,h=>by simpa using h
 | g :: hs,gs,h=>by
  rw [show gs++g :: hs=(gs++[g])++hs by simp]
  exact SP hs _ (by rw [DV,h];rfl)
theorem acx {I:Nat} {gs:List Gate} {k:Nat} (h:lD I gs k=none):iF I gs=none:=by
 unfold lD at h
 split at h
 ·cases h
 ·have:=SP (gs.drop (k - I)) _ h
  rwa [List.take_append_drop] at this
theorem ahn {n:Net} (G:cv n.ins.length n.bU) {k:Nat} (hk:k < n.ins.length+n.bU.length) {s:dJ} (hs:lD n.ins.length n.bU k=some s):Cc n s (2+k) (lD n.ins.length n.bU (k+1)):=by
 have hb:=G.oR
 by_cases hi:k < n.ins.length
 ·unfold lD at hs ⊢
  rw [if_pos (by omega)] at hs ⊢
  cases hs
  exact adL (by omega) hi
 ·obtain ⟨j,rfl⟩:∃j,k=n.ins.length+j:=⟨k - n.ins.length,by omega⟩
  rw [MG] at hs
  rw [Nat.add_assoc n.ins.length,MG,<-Nat.add_assoc 2]
  exact aeR G (by omega) hs
structure Wu where
 n:Net
 out:Option dJ
@[reducible] noncomputable def Of:Vc.Spec where
 α:=Wu
 args x:=[.agg [.sl 3 jR (λ_=>x.n.ins),.sl 5 lT (λ_=>x.n.bU),.sl 3 jR (λ_=>x.n.outs),.sl 1 bH (λ_=>x.n.bf)]]
 pre x:=cv x.n.ins.length x.n.bU/\iF x.n.ins.length x.n.bU=x.out
 res x:=match x.out with
  | some s=>.bX [.cZ (I5 x.n s) 0,.ic .i64 0]
  | none=>.bX [.cell,.ic .i64 2]
noncomputable def aiW (n m:Nat):Ctx:=cP n m [] [] [] [] [] [89,32] [32]
theorem Vt (n m:Nat):CB PP (aiW n m):=cR n m trivial trivial
noncomputable def aiX (n m:Nat):Ctx:=cP n m [] []
theorem afN (n m:Nat):CB PP (aiX n m):=cR n m trivial trivial
noncomputable def aiY (n m:Nat):Ctx:=cP n m [(39,Try.f39)] [] [39] [] [1,2,9]
theorem Vu (n m:Nat):CB PP (aiY n m):=cR n m ⟨fo Try.func39,trivial⟩ trivial
theorem Vv:dm (PP ()) 32 Of:=by
 refine fl (Vu 0 0) (fo Try.func32) (λa=>⟨⟨λx=>(rI x).1,λx=>(um x).1,λx=>(rI x).1,λx=>(dq x).1,trivial⟩,trivial⟩) (λa=>by rcases a with ⟨n,_|s⟩<;>first|exact ⟨trivial,trivial,trivial⟩|exact ⟨UC n s,trivial,trivial⟩) ?_
 rintro ⟨⟨ins,gs,outs,dr⟩,out⟩ hx
 obtain ⟨G,cX⟩:cv ins.length gs/\iF ins.length gs=out:=hx
 have hb:=G.oR
 obtain ⟨N,hN⟩:∃N,ins.length+gs.length=N:=⟨_,rfl⟩
 have hw:IntKind.i64.wrap ((ins.length:Int)+(gs.length:Int))=(N:Int):=by rw [ei (by omega) (by omega)];omega
 obtain ⟨Sf,qh⟩:∃Sf:Nat->dJ,∀k,Sf k=(lD ins.length gs k).getD ⟨[],[],[]⟩:=⟨_,λ_=>rfl⟩
 have JR:lD ins.length gs 0=some (Sf 0):=by rw [qh,Vs];rfl
 have I8:Sf 0=jU 0:=by rw [qh,Vs];rfl
 have z1:[0,0]=(Sf 0).labels:=by rw [I8];rfl
 have z2:[[[]],[[]]]=(Sf 0).e6:=by rw [I8];rfl
 have z3:List.replicate (2:Int).toNat ([]:List Int)=(Sf 0).leaves:=by rw [I8];rfl
 have hSs:∀k s',lD ins.length gs k=some s'->Sf k=s':=λk s' h=>by rw [qh,h];rfl
 have fe:∀k,k < N->lD ins.length gs k=some (Sf k)->Cc ⟨ins,gs,outs,dr⟩ (Sf k) (2+k) (lD ins.length gs (k+1)):=λk hk h=>ahn (n:=⟨ins,gs,outs,dr⟩) G (by show k < ins.length+gs.length;omega) h
 have du:∀k,lD ins.length gs k=none->out=none:=λk h=>by rw [<-cX];exact acx h
 have nf:∀k,N<=k->lD ins.length gs k=some (Sf k)->out=some (Sf k):=λk hk h=>by rw [<-cX,<-adM (by omega:ins.length+gs.length<=k)];exact h
 have hNb:N<=600:=by omega
 clear qh I8
 refine ⟨?_⟩
 cbv
 refine Sat.iR (Vt 0 0) ?_
 cbv
 refine Sat.iR (Vt 0 0) ?_
 cbv
 refine ⟨[0,0],⟨by exact a7,rfl⟩,?_⟩
 cbv
 refine ⟨[[[]],[[]]],⟨by exact a7,rfl⟩,?_⟩
 cbv
 refine ⟨⟨by decide,by decide,by decide,by decide⟩,?_⟩
 refine Sat.eE (Vu 0 0) 7 6 [(.c 6 4,3),(.c 6 5,4),(.c 6 6,5)] (λk:Nat=>[(23,.i .i64 (λ_=>(N:Int))),(24,.i .i64 (λ_=>(k:Int)))]) (λk=>[(3,.dyn 3 1 bH (λ_=>(Sf k).labels)),(4,.dyn 39 1 zp (λ_=>(Sf k).e6)),(5,.dyn 32 1 fR (λ_=>(Sf k).leaves))]) (λk=>k<=N/\lD ins.length gs k=some (Sf k)) (λk=>N - k) 0 (by have bE:=hw;exact a8) (by have eG:=z1;have pv:=z2;have uW:=z3;exact a8) ⟨cK _,JR⟩ ?_
 intro k hk
 obtain ⟨hk,CH⟩:k<=N/\lD ins.length gs k=some (Sf k):=hk
 have kH:=eO (i:=k) (by omega)
 have hv:IntKind.i64.wrap (2+(k:Int))=((2+k:Nat):Int):=by rw [ei (by omega) (by omega)];omega
 cbv
 refine ⟨λh=>?_,λh=>?_⟩
 rotate_left
 ·have b9:N<=k:=aL
  obtain rfl:=nf k b9 CH
  cbv
  refine Sat.freeze 3 rfl rfl ?_
  refine Sat.freeze 4 rfl rfl ?_
  refine Sat.freeze 5 rfl rfl ?_
  refine Sat.freeze 6 rfl rfl ?_
  refine Sat.iR (afN 0 0) ?_
  cbv
  exact ⟨by exact a7⟩
 have Zz:k < N:=aL
 have x2:=fe k Zz CH
 obtain ⟨V,hV⟩:∃V,2+k=V:=⟨_,rfl⟩
 rw [hV] at x2 hv
 have cy:N - (k+1) < N - k:=by omega
 clear h
 rcases hO:lD ins.length gs (k+1) with _|s'
 ·rw [hO] at x2
  obtain rfl:=du (k+1) hO
  cbv
  refine iW.tM Wt (λa y=>trivial) ⟨⟨ins,gs,outs,dr⟩,Sf k,V,none⟩ [6,3,4,5] rfl (by have bE:=hv;exact bJ) (by exact aW) ⟨x2⟩ λ_ _=>?_
  cbv
  refine ⟨λh=>?_,λh=>?_⟩
  ·cbv
   exact ⟨by ((try cbv)<;>((repeat' first|exact cH.nil|exact Le.refl _|refine cH.cons ?_ ?_|exact Le.ic rfl|exact Le.bc rfl|exact Le.i rfl|exact Le.b rfl|exact Le.sl rfl|exact Le.mp rfl|exact Le.fu rfl|exact Le.nX rfl|refine Le.cD rfl (λ_=>?_)|refine Le.dF rfl (λ_ _=>rfl) (λ_=>?_) ?_|refine Le.agg ?_|refine Le.bX ?_|refine Le.fn ?_ ?_|refine Le.cZ ?_|exact trivial|refine And.intro ?_ ?_|refine λ_=>?_|exact Le.any _)))<;>exact .cell rfl⟩
  ·have h':(!(none:Option dJ).isSome)=false:=h.out
   cases h'
 ·rw [hO] at x2
  have e:=hSs (k+1) s' hO
  have e1:((some s').getD (Sf k)).labels=(Sf (k+1)).labels:=by rw [e];rfl
  have e2:((some s').getD (Sf k)).e6=(Sf (k+1)).e6:=by rw [e];rfl
  have e3:((some s').getD (Sf k)).leaves=(Sf (k+1)).leaves:=by rw [e];rfl
  have gl:(k+1<=N/\lD ins.length gs (k+1)=some (Sf (k+1)))/\N - (k+1) < N - k:=⟨⟨Zz,by rw [e];exact hO⟩,cy⟩
  cbv
  refine iW.tM Wt (λa y=>trivial) ⟨⟨ins,gs,outs,dr⟩,Sf k,V,some s'⟩ [6,3,4,5] rfl (by have bE:=hv;exact bJ) (by exact aW) ⟨x2⟩ λ_ _=>?_
  cbv
  refine ⟨λh=>?_,λh=>?_⟩
  ·have h':(!(some s').isSome)=true:=h.out
   cases h'
  cbv
  exact ⟨k+1,by have bE:=kH;exact a8,by have eG:=e1;have pv:=e2;have uW:=e3;exact a8,⟨gl⟩⟩
@[reducible] noncomputable def Xu:Vc.Spec where
 α:=Wu
 args x:=[.agg [.sl 3 jR (λ_=>x.n.ins),.sl 5 lT (λ_=>x.n.bU),.sl 3 jR (λ_=>x.n.outs),.sl 1 bH (λ_=>x.n.bf)]]
 pre x:=cv x.n.ins.length x.n.bU/\iF x.n.ins.length x.n.bU=x.out
 res x:=match x.out with
  | some s=>.bX [.sl 1 bH (λ_=>s.labels),.ic .i64 0]
  | none=>.bX [.cD,.ic .i64 2]
noncomputable def aiZ (n m:Nat):Ctx:=cP n m [] [(32,Of)]
theorem afO (n m:Nat):CB PP (aiZ n m):=cR n m trivial ⟨Vv,trivial⟩
theorem afP:dm (PP ()) 31 Xu:=by
 refine fl (afO 0 0) (fo Try.func31) (λa=>⟨⟨λx=>(rI x).1,λx=>(um x).1,λx=>(rI x).1,λx=>(dq x).1,trivial⟩,trivial⟩) (λa=>by rcases a with ⟨n,_|s⟩<;>first|exact ⟨trivial,trivial,trivial⟩|exact ⟨λx=>(dq x).1,trivial,trivial⟩) ?_
 rintro ⟨⟨ins,gs,outs,dr⟩,_|s⟩ hx
 ·have hx:cv ins.length gs/\iF ins.length gs=none:=hx
  refine ⟨?_⟩
  cbv
  refine ⟨⟨⟨ins,gs,outs,dr⟩,none⟩,⟨by exact a7,hx⟩,?_⟩
  cbv
  exact ⟨by exact a7⟩
 ·have hx:cv ins.length gs/\iF ins.length gs=some s:=hx
  refine ⟨?_⟩
  cbv
  refine ⟨⟨⟨ins,gs,outs,dr⟩,some s⟩,⟨by exact a7,hx⟩,?_⟩
  cbv
  exact ⟨by exact a7⟩
def xX (k:Nat) (v:Int):Option Int:=if 0<=v/\v < k then some v else none
theorem afQ:(λ_=>none)=xX 0:=by funext v;unfold xX;rw [if_neg (by omega)]
theorem acz (k:Nat):(λj=>if j=(k:Int) then some (k:Int) else xX k j)=xX (k+1):=by
 funext j
 unfold xX
 by_cases h:j=k
 ·rw [if_pos h,if_pos (by omega),h]
 ·rw [if_neg h]
  by_cases h2:0<=j/\j < k
  ·rw [if_pos h2,if_pos (by omega)]
  ·rw [if_neg h2,if_neg (by omega)]
theorem adN (I:Nat) (roots:List Int):xX (2+I)=fD I (roots.take 0):=by
 funext v
 unfold xX fD
 by_cases h:0<=v/\v < 2+(I:Int)
 ·rw [if_pos (by omega),if_pos h]
 ·rw [if_neg (by omega),if_neg h];rfl
theorem acA {I:Nat} {roots:List Int} {i:Nat} {r:Int} (hr:roots[i]?=some r) (hn:roots.Nodup) (gS:2+(I:Int)<=r):(λj=>if j=r then some (2+(I:Int)+i) else fD I (roots.take i) j)=fD I (roots.take (i+1)):=by
 obtain ⟨aQ,CL⟩:=bq.1 hr
 have hlen:(roots.take i).length=i:=by rw [lQ];omega
 have ai0:r∉roots.take i:=λhm=>by
  obtain ⟨j,hj⟩:=qC hm
  rw [kP] at hj
  split at hj
  ·obtain ⟨e7,sw⟩:=bq.1 hj
   exact rA.1 hn j i e7 aQ (by assumption) (by rw [sw,CL])
  ·cases hj
 funext j
 unfold fD
 rw [jm,hr,nJ,List.findIdx?_append]
 by_cases h:j=r
 ·subst h
  have du:List.findIdx? (λx=>decide (x=j)) (roots.take i)=none:=Bg.2 λx hx=>decide_eq_false λe=>ai0 (by rw [<-e];exact hx)
  rw [if_pos rfl,if_neg (by omega),du]
  simp [List.findIdx?_cons,hlen]
 ·rw [if_neg h]
  split
  ·rfl
  ·have e:List.findIdx? (λx=>decide (x=j)) [r]=none:=by
    have:¬r=j:=λe=>h e.symm
    simp [List.findIdx?_cons,this]
   rw [e]
   cases List.findIdx? (λx=>decide (x=j)) (roots.take i)<;>rfl
structure ai1 where
 n:Net
 roots:List Int
structure BO (I:Nat) (roots:List Int):Prop where
 len:roots.length<=1000000
 nd:roots.Nodup
 lo:∀r∈roots,2+(I:Int)<=r
@[reducible] noncomputable def I9:Vc.Spec where
 α:=ai1
 args x:=[.agg [.sl 3 jR (λ_=>x.n.ins),.sl 5 lT (λ_=>x.n.bU),.sl 3 jR (λ_=>x.n.outs),.sl 1 bH (λ_=>x.n.bf)],.sl 1 bH (λ_=>x.roots)]
 pre x:=x.n.ins.length<=1000000/\BO x.n.ins.length x.roots
 res x:=.mp (.int .i64) bH (λ_=>fD x.n.ins.length x.roots)
noncomputable def ai2 (n m:Nat):Ctx:=cP n m [] []
theorem M3 (n m:Nat):CB PP (ai2 n m):=cR n m trivial trivial
theorem M4:dm (PP ()) 20 I9:=by
 refine fl (M3 0 0) (fo Try.func20) (λa=>⟨⟨λx=>(rI x).1,λx=>(um x).1,λx=>(rI x).1,λx=>(dq x).1,trivial⟩,λx=>(dq x).1,trivial⟩) (λa=>λx=>(dq x).1) ?_
 rintro ⟨⟨ins,gs,outs,dr⟩,R⟩ hx
 obtain ⟨hI,JT,Aw,tJ⟩:ins.length<=1000000/\BO ins.length R:=hx
 obtain ⟨Af,wD⟩:∃Af:Nat->Int->Option Int,∀k,Af k=xX k:=⟨_,λ_=>rfl⟩
 obtain ⟨Sf,qh⟩:∃Sf:Nat->Int->Option Int,∀i,Sf i=fD ins.length (R.take i):=⟨_,λ_=>rfl⟩
 have yd:(λ_=>none)=Af 0:=by rw [wD];exact afQ
 have PF:∀k:Nat,(λj=>if j=(k:Int) then some (k:Int) else Af k j)=Af (k+1):=λk=>by rw [wD,wD];exact acz k
 have ZA:Af (2+ins.length)=Sf 0:=by rw [wD,qh];exact adN _ _
 have yl:∀(i:Nat) (r:Int),R[i]?=some r->(λj=>if j=r then some (2+(ins.length:Int)+i) else Sf i j)=Sf (i+1):=λi r hr=>by rw [qh,qh];exact acA hr Aw (tJ r (cL hr))
 have nf:∀i:Nat,R.length<=i->Sf i=fD ins.length R:=λi hi=>by rw [qh,jj hi]
 obtain ⟨T,hT⟩:∃T,2+ins.length=T:=⟨_,rfl⟩
 have hw:IntKind.i64.wrap (2+(ins.length:Int))=(T:Int):=by rw [ei (by omega) (by omega)];omega
 have CM:∀i:Nat,i<=1000000->IntKind.i64.wrap (IntKind.i64.wrap (2+(ins.length:Int))+(i:Int))=2+(ins.length:Int)+i:=λi hi=>by rw [hw,ei (by omega) (by omega)];omega
 rw [hT] at ZA
 refine ⟨?_⟩
 cbv
 refine Sat.eE (M3 0 0) 2 6 [] (λk:Nat=>[(13,.i .i64 (λ_=>(T:Int))),(14,.i .i64 (λ_=>(k:Int)))]) (λk=>[(1,.map (.int .i64) bH (λ_=>Af k))]) (λk=>k<=T) (λk=>T - k) 0 (by have bE:=hw;exact a8) (by have qW:=yd;exact a8) (cK _) ?_
 intro k hk
 have hk:k<=T:=hk
 have kH:=eO (i:=k) (by omega)
 have qf:=PF k
 cbv
 refine ⟨λh=>?_,λh=>?_⟩
 ·have PI:k < T:=aL
  have cy:T - (k+1) < T - k:=by omega
  clear h
  cbv
  refine ⟨(k:Int),⟨by exact a7⟩,?_⟩
  cbv
  exact ⟨k+1,by have bE:=kH;exact a8,by have qW:=qf;exact a8,⟨⟨PI,cy⟩⟩⟩
 have b9:T<=k:=aL
 have PI:k=T:=by omega
 subst PI
 clear h
 cbv
 refine Sat.eE (M3 0 0) 2 6 [] (λi:Nat=>[(21,.sl 1 bH (λ_=>R)),(22,.i .i64 (λ_=>(R.length:Int))),(23,.i .i64 (λ_=>(i:Int)))]) (λi=>[(1,.map (.int .i64) bH (λ_=>Sf i))]) (λi=>i<=R.length) (λi=>R.length - i) 0 (by exact aW) (by have qW:=ZA;exact a8) (cK _) ?_
 intro i hi
 have hi:i<=R.length:=hi
 have dP:=n0 i
 have gB:=eO (i:=i) (by omega)
 have hx:=CM i (by omega)
 have ym:=yl i
 obtain ⟨X,hX⟩:∃X,2+(ins.length:Int)+i=X:=⟨_,rfl⟩
 rw [hX] at hx ym
 cbv
 refine ⟨λh=>?_,λh=>?_⟩
 ·have bP:i < R.length:=aL
  have cy:R.length - (i+1) < R.length - i:=by omega
  refine (cC bP).elim λr hr=>?_
  have Ax:=ym r hr
  clear h
  cbv
  refine ⟨r,⟨dP,hr⟩,?_⟩
  cbv
  refine ⟨X,⟨by have bE:=hx;exact bJ⟩,?_⟩
  cbv
  exact ⟨i+1,by have bE:=gB;exact a8,by have qW:=Ax;exact a8,⟨⟨bP,cy⟩⟩⟩
 ·have b9:R.length<=i:=aL
  have hf:=nf i b9
  cbv
  exact ⟨by have FE:=hf;exact bJ⟩
structure aho where
 n:Net
 S:List Int
 st:l6
 v:Int
structure ViR where
 res:Bool
 st:l6
abbrev E4:Unit->List SV:=λ_=>[.bc true]
def Xv (n:Net) (S:List Int) (st:l6):List Slot:=[.fix 32 [.sl 1 bH (λ_=>S)],.fix 107 [.fm 2],.map (.int .i64) E4 (λ_=>st.rch),.fix 107 [.fm 4],.map (.int .i64) E4 (λ_=>st.ins),.fix 34 (oj n),.fix 80 [.fn (.func 50) [] [.ptr 0 0,.ptr 1 0,.ptr 3 0,.ptr 5 0,.ptr 6 0]]]
structure Ja (n:Net) (S:List Int) (v:Int):Prop where
 G:cv n.ins.length n.bU
 S:S.length<=1000000
 v0:0<=v
 v1:v < 2+n.ins.length+n.bU.length
@[reducible] noncomputable def PJ (k:Nat):nU where
 α:=aho
 args x:=[.i .i64 (λ_=>x.v),.ptr 0 0,.ptr 1 0,.ptr 3 0,.ptr 5 0,.ptr 6 0]
 io x:=Xv x.n x.S x.st
 pre x:=Ja x.n x.S x.v/\x.v.toNat<=k
 β:=ViR
 post x y:=my x.n.ins.length x.n.bU x.S x.st x.v y.res y.st
 mv:=[]
 res x y:=.b (λ_=>y.res)
 kZ x y:=Xv x.n x.S y.st
theorem acB {n:Net} {v:Int} {g:Gate} (h:pS n v=(g,true)):fV n.ins.length n.bU v.toNat=some g/\g.op≠7:=by
 unfold pS at h
 cases hg:fV n.ins.length n.bU v.toNat with
 | none=>rw [hg] at h;cases h
 | some g' =>
  rw [hg] at h
  simp only at h
  split at h
  ·cases h
  ·cases h;exact ⟨rfl,by assumption⟩
theorem adO {n:Net} {v:Int} {g:Gate} (h:pS n v=(g,false)):∀g',fV n.ins.length n.bU v.toNat=some g'->g'.op=7:=λg' hg=>by
 unfold pS at h
 rw [hg] at h
 simp only at h
 split at h
 ·assumption
 ·cases h
noncomputable def cVi (n m:Nat):Ctx:=cP n m [(50,Try.f50)] [(51,Iu),(43,N7),(52,Xh)] [50]
theorem Wv (n m:Nat):CB PP (cVi n m):=cR n m ⟨fo Try.func50,trivial⟩ ⟨MF,Vh,afv,trivial⟩
theorem UJ (k:Nat) (ih:∀m,m+1=k->lW PP 50 (PJ m)):lW PP 50 (PJ k):=by
 refine qV (Wv 0 0) (fo Try.func50) (λa y=>rfl) (λa=>⟨rfl,rfl⟩) .nil ?_
 rintro ⟨⟨ins,gs,outs,dr⟩,S,⟨Is,Rs⟩,v⟩ hx
 obtain ⟨⟨G,hS,ko,qZ⟩,hvk⟩:Ja ⟨ins,gs,outs,dr⟩ S v/\v.toNat<=k:=hx
 have G:cv ins.length gs:=G
 have hS:S.length<=1000000:=hS
 have qZ:v < 2+(ins.length:Int)+gs.length:=qZ
 have hb:=G.oR
 have uT:S.length<=1000000000000:=by omega
 obtain ⟨g,b,wC⟩:∃g b,pS ⟨ins,gs,outs,dr⟩ v=(g,b):=⟨_,_,rfl⟩
 have tE:ins.length<=1000/\gs.length<=1000/\0<=v/\v < vI ⟨ins,gs,outs,dr⟩/\pS ⟨ins,gs,outs,dr⟩ v=(g,b):=⟨by omega,by omega,ko,qZ,wC⟩
 obtain ⟨O,hO⟩:∃O,cI g=O:=⟨_,rfl⟩
 have ZB:O.length<=3:=by rw [<-hO];exact (y6 g).2
 have Xw:(λj=>if j=v then some () else Rs j)=(l6.mk Is (xW Rs v)).rch:=rfl
 have Xx:(λj=>if j=v then some () else Is j)=(l6.mk (xW Is v) Rs).ins:=rfl
 obtain ⟨Ra,ZC⟩:∃Ra,xW Rs v=Ra:=⟨_,rfl⟩
 obtain ⟨Ia,ZD⟩:∃Ia,xW Is v=Ia:=⟨_,rfl⟩
 have Xw:(λj=>if j=v then some () else Rs j)=Ra:=ZC
 have Xx:(λj=>if j=v then some () else Is j)=Ia:=ZD
 refine ⟨?_⟩
 cbv
 refine ⟨⟨S,v⟩,⟨by exact a7,uT⟩,?_⟩
 cbv
 refine ⟨λh=>?_,λh=>?_⟩
 ·have hm:v∈S:=by have h':S.contains v=true:=h.out;simpa using h'
  have cX:my ins.length gs S ⟨Is,Rs⟩ v true ⟨Is,Ra⟩:=ZC ▸ my.leaf ko hm
  cbv
  refine ⟨(),⟨by exact a7⟩,?_⟩
  cbv
  exact ⟨⟨true,⟨Is,Ra⟩⟩,[],[],⟨by exact gw,trivial⟩,by have qW:=Xw;exact a8,⟨cX⟩⟩
 have hm:v∉S:=by have h':S.contains v=false:=h.out;simpa using h'
 clear h
 cbv
 refine ⟨λh=>?_,λh=>?_⟩
 ·have aQ:v < 2:=aL
  have cX:my ins.length gs S ⟨Is,Rs⟩ v true ⟨Is,Rs⟩:=.known hm (.inl aQ)
  cbv
  exact ⟨⟨true,⟨Is,Rs⟩⟩,[],[],⟨by exact gw,trivial⟩,by exact aW,⟨cX⟩⟩
 have b9:2<=v:=aL
 clear h
 cbv
 refine ⟨none,⟨rfl,λ_=>rfl⟩,?_⟩
 cbv
 refine ⟨λh=>?_,λh=>?_⟩
 ·have df:(Is v).isSome=true:=h.out
  have cX:my ins.length gs S ⟨Is,Rs⟩ v true ⟨Is,Rs⟩:=.known hm (.inr df)
  cbv
  exact ⟨⟨true,⟨Is,Rs⟩⟩,[],[],⟨by exact gw,trivial⟩,by exact aW,⟨cX⟩⟩
 clear h
 cbv
 refine ⟨⟨⟨ins,gs,outs,dr⟩,v,g,b⟩,⟨by exact a7,tE⟩,?_⟩
 cbv
 refine ⟨λh=>?_,λh=>?_⟩
 ·have PL:b=false:=by have h':(!b)=true:=h.out;simpa using h'
  subst PL
  have cX:my ins.length gs S ⟨Is,Rs⟩ v false ⟨Is,Rs⟩:=.bad b9 hm (adO wC)
  cbv
  exact ⟨⟨false,⟨Is,Rs⟩⟩,[],[],⟨by exact gw,trivial⟩,by exact aW,⟨cX⟩⟩
 have q7:b=true:=by have h':(!b)=false:=h.out;simpa using h'
 subst q7
 obtain ⟨hg,h7⟩:=acB wC
 have hg:fV ins.length gs v.toNat=some g:=hg
 have yp:qO ins.length gs S ⟨Is,Rs⟩ v O 0 ⟨Ia,Rs⟩:=ZD ▸ qO.start b9 hm O
 have CN:((v.toNat:Nat):Int)∉S:=by rw [Int.toNat_of_nonneg ko];exact hm
 have wB:∀x∈O,x∈pw ins.length gs S v.toNat:=λx hx=>qH.2 ⟨CN,g,hg,h7,by rw [hO];exact hx⟩
 have u5:∀x∈O,0<=x/\x < v:=λx hx=>by have:=Ei G (wB x hx);omega
 refine (⟨k - 1,by omega⟩:∃m,m+1=k).elim λm qg=>?_
 have ih:=ih m qg
 clear h
 cbv
 refine ⟨(),⟨by exact a7⟩,?_⟩
 cbv
 refine ⟨⟨g,O⟩,⟨by exact a7,hO⟩,?_⟩
 cbv
 refine Sat.eE (Wv 0 0) 8 6 [] (λy:Nat × l6=>[(37,.sl 1 bH (λ_=>O)),(38,.i .i64 (λ_=>(O.length:Int))),(39,.i .i64 (λ_=>(y.1:Int)))]) (λy=>[(2,.map (.int .i64) E4 (λ_=>y.2.rch)),(4,.map (.int .i64) E4 (λ_=>y.2.ins))]) (λy=>qO ins.length gs S ⟨Is,Rs⟩ v O y.1 y.2) (λy=>O.length - y.1) (0,⟨Ia,Rs⟩) (by exact aW) (by have qW:=Xx;exact a8) yp ?_
 rintro ⟨j,⟨I2,R2⟩⟩ hJ
 have hJ:qO ins.length gs S ⟨Is,Rs⟩ v O j ⟨I2,R2⟩:=hJ
 have e7:=hJ.le
 have l7:=n0 j
 have oS:=eO (i:=j) (by omega)
 cbv
 refine ⟨λh=>?_,λh=>?_⟩
 rotate_left
 ·have Jb:O.length<=j:=aL
  have cX:=hJ.fin Jb hm hg h7 hO.symm
  cbv
  exact ⟨⟨true,⟨I2,R2⟩⟩,[],[],⟨by exact gw,trivial⟩,by exact aW,⟨cX⟩⟩
 have E5:j < O.length:=aL
 have cy:O.length - (j+1) < O.length - j:=by omega
 refine (cC E5).elim λx hx=>?_
 have FM:=cL hx
 have lG:=u5 x FM
 have dL:Ja ⟨ins,gs,outs,dr⟩ S x/\x.toNat<=m:=⟨⟨G,hS,lG.1,Int.lt_trans lG.2 qZ⟩,by have:=lG.1;have:=lG.2;omega⟩
 have JU:=wB x FM
 clear h
 cbv
 refine ⟨x,⟨l7,hx⟩,?_⟩
 cbv
 refine iW.tM ih (λa y=>trivial) ⟨⟨ins,gs,outs,dr⟩,S,⟨I2,R2⟩,x⟩ [0,1,2,3,4,5,6] rfl (by exact a7) (by exact aW) ⟨dL⟩ λy hy=>?_
 obtain ⟨res,⟨I3,R3⟩⟩:=y
 have hy:my ins.length gs S ⟨I2,R2⟩ x res ⟨I3,R3⟩:=hy.out
 cbv
 refine ⟨λh=>?_,λh=>?_⟩
 ·have hr:res=false:=by have h':(!res)=true:=h.out;simpa using h'
  subst hr
  have cX:=hJ.fail JU hy
  cbv
  exact ⟨⟨false,⟨I3,R3⟩⟩,[],[],⟨by exact gw,trivial⟩,by exact aW,⟨cX⟩⟩
 ·have hr:res=true:=by have h':(!res)=false:=h.out;simpa using h'
  subst hr
  have bW:=hJ.step hx JU hy
  cbv
  exact ⟨(j+1,⟨I3,R3⟩),by have bE:=oS;exact a8,by exact aW,⟨⟨bW,cy⟩⟩⟩
theorem Ww:∀k,lW PP 50 (PJ k)
 | 0=>UJ 0 λm h=>by omega
 | k+1=>UJ (k+1) λm h=>by
  cases Nat.succ.inj h
  exact Ww k
structure sf (root:Int) (S:List Int) (i:Nat):Prop where
 le:i<=S.length
 mem:∀x∈S.take i,2<=x/\x<=root
 inc:fY (S.take i)
theorem sf.start (root:Int) (S:List Int):sf root S 0:=⟨cK _,by simp,by simp⟩
theorem sf.step {root:Int} {S:List Int} {i:Nat} {x:Int} (h:sf root S i) (hx:S[i]?=some x) (h1:2<=x) (h2:x<=root) (h3:∀p,0 < i->S[i - 1]?=some p->p < x):sf root S (i+1):=by
 refine ⟨(bq.1 hx).1,λy hy=>?_,?_⟩
 ·rw [jm,hx] at hy
  rcases eA.1 hy with hy|hy
  ·exact h.mem y hy
  ·simp at hy;subst hy;exact ⟨h1,h2⟩
 ·rw [jm,hx,nJ]
  refine j9.2 ⟨h.inc,by simp,λy hy z hz=>?_⟩
  simp at hz;subst hz
  have hi:0 < i:=by
   rcases yZ i with rfl|hi
   ·simp at hy
   ·exact hi
  have aQ:=(bq.1 hx).1
  obtain ⟨p,hp⟩:∃p,S[i - 1]?=some p:=⟨_,eB (by omega)⟩
  have Jv:=h3 p hi hp
  have kB:=h.inc
  rw [show i=(i - 1)+1 by omega,jm,hp,nJ] at kB hy
  rcases eA.1 hy with hy|hy
  ·have:=(j9.1 kB).2.2 y hy p (by simp);omega
  ·simp at hy;omega
theorem sf.fin {N root:Int} {S:List Int} {i:Nat} (h:sf root S i) (hi:S.length<=i) (h1:2<=root) (h2:root < N) (h3:S.length<=4):nP N root S=true:=by
 have e:S.take i=S:=jj hi
 have a:=h.mem
 have b:=h.inc
 rw [e] at a b
 exact yM.2 ⟨h1,h2,h3,a,b⟩
theorem DX {N root:Int} {S:List Int} (h:¬Ej N root S):nP N root S=false:=by
 cases hb:nP N root S with
 | false=>rfl
 | true=>exact absurd (yM.1 hb) h
theorem UK {N root:Int} {S:List Int} {i:Nat} {x:Int} (hx:S[i]?=some x) (h:x < 2\/root < x):nP N root S=false:=DX λL=>by
 have:=L.mem x (cL hx);omega
theorem aeS {N root:Int} {S:List Int} {i:Nat} {x p:Int} (hi:0 < i) (hx:S[i]?=some x) (hp:S[i - 1]?=some p) (h:x<=p):nP N root S=false:=DX λL=>by
 obtain ⟨h1,e1⟩:=bq.1 hx
 obtain ⟨h2,e2⟩:=bq.1 hp
 have:=rA.1 L.inc (i - 1) i h2 h1 (by omega)
 omega
theorem aeT {l m:List Int} (hm:fY m) (hn:l.Nodup) (h:∀u,u∈l↔u∈m):p8 l=m:=by
 have hp:(p8 l).Perm l:=List.mergeSort_perm l _
 have hs:(p8 l).Pairwise (·<=·):=by
  have:=Sd (le:=λx y:Int=>decide (x<=y)) (λa b c h1 h2=>by simp only [decide_eq_true_eq] at *;omega) (λa b=>by simp only [oz,decide_eq_true_eq];omega) l
  unfold p8
  simpa using this
 have fe:(p8 l).Nodup:=hp.nodup_iff.2 hn
 have hi:fY (p8 l):=(Lb.2 ⟨hs,fe⟩).imp λ⟨a,b⟩=>by omega
 exact hi.ext hm λu=>hp.mem_iff.trans (h u)
structure afR (S:List Int) (rch:Int->Option Unit) (ks:List Int):Prop where
 nd:ks.Nodup
 mem:∀n,n∈ks↔(rch n).isSome=true
theorem afS {S:List Int} {rch:Int->Option Unit} (hS:S.Nodup) (h:∀u,(rch u).isSome=true->u∈S):afR S rch (S.filter λx=>(rch x).isSome) :=
 ⟨hS.filter _,λn=>by rw [k9];exact ⟨λa=>a.2,λa=>⟨h n a,a⟩⟩⟩
theorem filter_lt {A:Type} {f:A->Bool}:∀{l:List A},(l.filter f).length < l.length->∃x∈l,f x=false
 | [],h=>by simp at h
 | x :: l,h=>by
  cases hf:f x with
  | false=>exact ⟨x,by simp,hf⟩
  | true =>
   rw [K8 hf,oy,oy] at h
   obtain ⟨y,hy,e⟩:=filter_lt (Nat.lt_of_succ_lt_succ h)
   exact ⟨y,by simp [hy],e⟩
theorem acC {A:Type} {f:A->Bool} {l:List A} (h:l.length<=(l.filter f).length):∀x∈l,f x=true:=by
 have:=List.Sublist.eq_of_length_le (List.filter_sublist (p:=f) (l:=l)) h
 intro x hx
 rw [<-this] at hx
 exact (k9.1 hx).2
structure ai3 where
 n:Net
 root:Int
 S:List Int
 out:Option (List Int)
structure Jc (n:Net) (root:Int) (S:List Int) (out:Option (List Int)):Prop where
 G:cv n.ins.length n.bU
 jt:S.length<=1000000
 eq:gV n.ins.length n.bU root S=out
@[reducible] noncomputable def Xy:Vc.Spec where
 α:=ai3
 args x:=[.agg (oj x.n),.i .i64 (λ_=>x.root),.sl 1 bH (λ_=>x.S)]
 pre x:=Jc x.n x.root x.S x.out
 res x:=match x.out with
  | some l=>.bX [.sl 1 bH (λ_=>l),.bc true]
  | none=>.bX [.cD,.bc false]
noncomputable def ai4 (n m:Nat):Ctx:=cP n m [] []
theorem afT (n m:Nat):CB PP (ai4 n m):=cR n m trivial trivial
noncomputable def ai5 (n m:Nat):Ctx:=cP n m [(50,Try.f50),(53,Try.f53)] [(49,Xg)] [50,53] [] [15]
theorem M5 (n m:Nat):CB PP (ai5 n m):=cR n m ⟨fo Try.func50,fo Try.func53,trivial⟩ ⟨afu,trivial⟩
theorem afU:dm (PP ()) 41 Xy:=by
 refine fl (M5 0 0) (fo Try.func41) (λa=>⟨td a.n,trivial,λx=>(dq x).1,trivial⟩) (λa=>by rcases a with ⟨n,r,S,_|l⟩<;>first|exact ⟨trivial,trivial,trivial⟩|exact ⟨λx=>(dq x).1,trivial,trivial⟩) ?_
 rintro ⟨⟨ins,gs,outs,dr⟩,root,S,out⟩ hx
 obtain ⟨G,hS,cX⟩:Jc ⟨ins,gs,outs,dr⟩ root S out:=hx
 have G:cv ins.length gs:=G
 have cX:gV ins.length gs root S=out:=cX
 have hb:=G.oR
 have tE:ins.length<=1000/\gs.length<=1000:=by omega
 obtain ⟨N,hN⟩:∃N:Int,vI ⟨ins,gs,outs,dr⟩=N:=⟨_,rfl⟩
 have ZE:N=2+(ins.length:Int)+gs.length:=hN.symm
 have hNi:∀r:Int,r < N->r < 2+(ins.length:Int)+gs.length:=λr h=>by omega
 have hN6:∀r:Int,r < N->r < 600:=λr h=>by omega
 have hNe:∀R S,nP N R S=true->nP (2+(ins.length:Int)+gs.length) R S=true:=λR S h=>by rw [<-ZE];exact h
 have du:nP N root S=false->out=none:=λh=>by rw [ZE] at h;rw [<-cX];exact aaK h
 refine ⟨?_⟩
 cbv
 refine ⟨λh=>?_,λh=>?_⟩
 ·have gS:root < 2:=aL
  obtain rfl:=du (DX λL=>by have:=L.lo;omega)
  cbv
  exact ⟨by exact a7⟩
 have gS:2<=root:=aL
 clear h
 cbv
 refine ⟨⟨ins,gs,outs,dr⟩,⟨by exact a7,tE⟩,?_⟩
 cbv
 refine ⟨λh=>?_,λh=>?_⟩
 ·have jE:vI ⟨ins,gs,outs,dr⟩<=root:=aL
  obtain rfl:=du (DX λL=>by have:=L.hi;omega)
  cbv
  exact ⟨by exact a7⟩
 have jE:root < vI ⟨ins,gs,outs,dr⟩:=aL
 have jE:root < N:=by omega
 clear h
 cbv
 refine ⟨λh=>?_,λh=>?_⟩
 ·have h4:(4:Int) < (S.length:Int):=aL
  have h4:4 < S.length:=by exact tN
  obtain rfl:=du (DX λL=>by have:=L.len;omega)
  cbv
  exact ⟨by exact a7⟩
 have h4:(S.length:Int)<=4:=aL
 have h4:S.length<=4:=by exact tN
 have yp:=sf.start root S
 clear h
 cbv
 refine Sat.eE (M5 0 0) 2 8 [] (λi:Nat=>[(28,.sl 1 bH (λ_=>S)),(29,.i .i64 (λ_=>(S.length:Int))),(30,.i .i64 (λ_=>(i:Int)))]) (λ_=>[]) (λi=>sf root S i) (λi=>S.length - i) 0 (by exact aW) (by exact aW) yp ?_
 intro i hJ
 have hJ:sf root S i:=hJ
 have bP:=hJ.le
 have dP:=n0 i
 have gB:=eO (i:=i) (by omega)
 cbv
 refine ⟨λh=>?_,λh=>?_⟩
 ·have yg:i < S.length:=aL
  have cy:S.length - (i+1) < S.length - i:=by omega
  refine (cC yg).elim λx hx=>?_
  clear h
  cbv
  refine ⟨x,⟨dP,hx⟩,?_⟩
  cbv
  refine ⟨λh=>?_,λh=>?_⟩
  ·have om:x < 2:=aL
   obtain rfl:=du (UK hx (.inl om))
   cbv
   exact ⟨by exact a7⟩
  have om:2<=x:=aL
  clear h
  cbv
  refine ⟨λh=>?_,λh=>?_⟩
  ·have JV:root < x:=aL
   obtain rfl:=du (UK hx (.inr JV))
   cbv
   exact ⟨by exact a7⟩
  have JV:x<=root:=aL
  clear h
  cbv
  refine ⟨λh=>?_,λh=>?_⟩
  ·have PM:(0:Int) < (i:Int):=aL
   have PM:0 < i:=by exact tN
   refine (cC (l:=S) (i:=i - 1) (by omega)).elim λp hp=>?_
   have Zr:IntKind.i64.wrap ((i:Int) - 1)=((i - 1:Nat):Int):=by rw [ei (by omega) (by omega)];omega
   have hpn:0<=IntKind.i64.wrap ((i:Int) - 1)/\S[(IntKind.i64.wrap ((i:Int) - 1)).toNat]?=some p:=by rw [Zr];exact ⟨n0 _,hp⟩
   clear h
   cbv
   refine ⟨p,⟨hpn⟩,?_⟩
   cbv
   refine ⟨λh=>?_,λh=>?_⟩
   ·have PN:x<=p:=aL
    obtain rfl:=du (aeS PM hx hp PN)
    cbv
    exact ⟨by exact a7⟩
   ·have PN:p < x:=aL
    have gl:sf root S (i+1)/\S.length - (i+1) < S.length - i:=⟨hJ.step hx om JV λq _ hq=>by rw [hp] at hq;cases hq;exact PN,cy⟩
    cbv
    exact ⟨i+1,by have bE:=gB;exact a8,by exact aW,⟨gl⟩⟩
  ·have PM:(i:Int)<=0:=aL
   have gl:sf root S (i+1)/\S.length - (i+1) < S.length - i:=⟨hJ.step hx om JV λq hq _=>by exfalso;exact tN,cy⟩
   cbv
   exact ⟨i+1,by have bE:=gB;exact a8,by exact aW,⟨gl⟩⟩
 have b9:S.length<=i:=aL
 have yq:nP (2+(ins.length:Int)+gs.length) root S=true:=hNe _ _ (hJ.fin b9 gS jE h4)
 have yl:S.Nodup:=(yM.1 yq).inc.nodup
 have hSm:=(yM.1 yq).mem
 have hvi:Ja ⟨ins,gs,outs,dr⟩ S root/\root.toNat<=root.toNat:=⟨⟨G,hS,wY (by decide) gS,hNi root jE⟩,fP _⟩
 clear h
 cbv
 refine iW.tM (Ww root.toNat) (λa y=>trivial) ⟨⟨ins,gs,outs,dr⟩,S,⟨λ_=>none,λ_=>none⟩,root⟩ [1,5,3,4,2,0,6] rfl (by exact a7) (by exact aW) ⟨hvi⟩ λy hy=>?_
 obtain ⟨res,⟨Is,Rs⟩⟩:=y
 have hy:my ins.length gs S ⟨λ_=>none,λ_=>none⟩ root res ⟨Is,Rs⟩:=hy.out
 cbv
 refine ⟨λh=>?_,λh=>?_⟩
 ·have hr:res=false:=by have h':(!res)=true:=h.out;simpa using h'
  subst hr
  obtain ⟨w,sx,wE⟩:=hy.no rfl
  obtain rfl:out=none:=by rw [<-cX];exact adp G sx wE
  cbv
  exact ⟨by exact a7⟩
 have hr:res=true:=by have h':(!res)=false:=h.out;simpa using h'
 subst hr
 have hC:=Iq.of G gS hy
 have uP:=afS (rch:=Rs) yl (λu hu=>((hC.rch u).1 hu).2.2)
 have aQ:=@filter_lt _ (λx=>(Rs x).isSome) S
 have b9:=@acC _ (λx=>(Rs x).isSome) S
 obtain ⟨ks,hk⟩:∃ks,S.filter (λx=>(Rs x).isSome)=ks:=⟨_,rfl⟩
 rw [hk] at uP aQ b9
 have Nv:∀x∈S,(Rs x).isSome=false->out=none:=λx hx hf=>by
  rw [<-cX]
  refine acj G hx λhr=>?_
  have:=(hC.rch x).2 ⟨by have:=hSm x hx;omega,hr,hx⟩
  rw [hf] at this;cases this
 have eV:(∀x∈S,(Rs x).isSome=true)->∃l,out=some l/\fY l/\∀u:Int,u∈l↔(Is u).isSome=true:=λha=>by
  obtain ⟨l,h1,h2,h3⟩:=ack G yq hC λx hx=>((hC.rch x).1 (ha x hx)).2.1
  exact ⟨l,by rw [<-cX];exact h1,h2,h3⟩
 have hkn:ks.Nodup/\∀n,n∈ks↔(Rs n).isSome=true:=⟨uP.nd,uP.mem⟩
 clear h
 cbv
 refine ⟨ks,⟨hkn⟩,?_⟩
 cbv
 refine ⟨λh=>?_,λh=>?_⟩
 ·have hl:ks.length < S.length:=aL
  obtain ⟨x,hx,hf⟩:=aQ hl
  obtain rfl:=Nv x hx hf
  cbv
  exact ⟨by exact a7⟩
 have hl:S.length<=ks.length:=aL
 obtain ⟨l,rfl,CP,FN⟩:=eV (b9 hl)
 clear h
 cbv
 refine Sat.freeze 2 rfl rfl ?_
 refine Sat.iR (afT 0 0) ?_
 cbv
 refine Sat.zB 13 3 1 zo dq rfl ?_
 cbv
 have hlen:l.length<=1000000:=by
  have h1:l.length<=(List.range (root.toNat+1)).length:=by
   have h2:(l.map Int.toNat).Nodup:=by
    refine (pM.2 ((Lb.2 ⟨CP,R4 (r:=λa b=>0<=a/\0<=b) λa ha b hb=>?_⟩).imp λ⟨a,b⟩=>by omega))
    have h3:=((hC.ins a).1 ((FN a).1 ha)).1
    have h4:=((hC.ins b).1 ((FN b).1 hb)).1
    omega
   have:=Bc h2 (l₂:=List.range (root.toNat+1)) λw hw=>by
    obtain ⟨u,hu,rfl⟩:=jO.1 hw
    have h3:=((hC.ins u).1 ((FN u).1 hu)).2.1
    have:=gy.le G h3
    exact lR.2 (by omega)
   rwa [kr] at this
  rw [G8] at h1
  have:=hN6 root jE
  omega
 refine Sat.eE (M5 0 0) 9 8 [(.t 13,8)] (λ_:List Int=>[(13,.own 8),(71,.ptr 7 0)]) (λsn=>[(7,.iter (.int .i64) E4 (λ_=>Is) (λ_=>sn) none),(8,.dyn 3 1 bH (λ_=>sn))]) (λsn=>(∀n∈sn,n∈l)/\sn.Nodup) (λsn=>l.length - sn.length) [] (by exact aW) (by exact aW) ⟨λn hn=>(by cases hn),xe⟩ ?_
 rintro sn ⟨ym,Ax⟩
 have ym:∀n∈sn,n∈l:=ym
 have Ax:sn.Nodup:=Ax
 have gv:sn.length<=l.length:=Bc Ax ym
 cbv
 refine ⟨λh=>?_,λn t h=>?_⟩
 ·have hov:∀n t,Is n=some t->n∈sn:=h.out
  have hsm:p8 sn=l:=aeT CP Ax λu=>⟨ym u,λhu=>by
   have:=(FN u).1 hu
   cases hq:Is u with
   | none=>rw [hq] at this;cases this
   | some t=>exact hov u t hq⟩
  have Ad:sn.length < 4611686018427387904:=by omega
  clear h
  cbv
  refine iW.tM MY (λa y=>trivial) sn [8] rfl (by exact a7) (by exact aW) ⟨Ad⟩ λy _=>?_
  cbv
  exact ⟨by have iz:=hsm;exact bJ⟩
 ·obtain ⟨g1,g2⟩:Is n=some t/\n∉sn:=h.out
  have x3:n∈l:=(FN n).2 (by rw [g1];rfl)
  have fe:(sn++[n]).Nodup:=G7.2 ⟨Ax,by simp,λa ha b hb e=>by simp at hb;subst hb;subst e;exact g2 ha⟩
  have ZF:∀q∈sn++[n],q∈l:=λq hq=>by
   rcases eA.1 hq with hq|hq
   ·exact ym q hq
   ·simp at hq;subst hq;exact x3
  have kW:(sn++[n]).length<=l.length:=Bc fe ZF
  have Jo:(sn++[n]).length=sn.length+1:=by simp
  have b1:(sn.length+1)*8<=140737488355328:=by omega
  have b2:sn.length+1<=9223372036854775807:=by omega
  have gl:((∀q∈sn++[n],q∈l)/\(sn++[n]).Nodup)/\l.length - (sn++[n]).length < l.length - sn.length:=⟨⟨ZF,fe⟩,by omega⟩
  clear h
  cbv
  refine ⟨[n],⟨by exact a7,b1,b2⟩,?_⟩
  cbv
  exact ⟨sn++[n],by exact aW,by exact a8,⟨gl⟩⟩
theorem acD {o A B C A' B' C':Int} (hA:A=A') (hB:2<=kb o->B=B') (hC:3<=kb o->C=C'):combineM o A B C=combineM o A' B' C':=by
 subst hA
 unfold kb at hB hC
 unfold combineM
 by_cases h1:o=1
 ·rw [if_pos h1,if_pos h1]
 ·rw [if_neg h1,if_neg h1]
  rw [if_neg h1] at hB hC
  by_cases h2:o=2\/o=3\/o=4
  ·rw [if_pos h2] at hB
   rw [hB (fP _)]
   rcases h2 with h|h|h<;>subst h<;>simp
  ·rw [if_neg h2] at hB hC
   rw [hB (by omega),hC (by omega)]
theorem adP {I:Nat} {gs:List Gate} {S:List Int} (hn:S.Nodup) {i:Nat} {x:Int} (hx:S[i]?=some x) (h0:0<=x):kC I gs S x.toNat=uu i:=by
 obtain ⟨aQ,O5⟩:=bq.1 hx
 have h:S.findIdx? (λy=>decide (y=((x.toNat:Nat):Int)))=some i:=by
  rw [DH]
  refine ⟨aQ,by rw [O5];simp;omega,λj hj=>?_⟩
  have:=rA.1 hn j i (by omega) aQ hj
  simp only [Bool.not_eq_true,decide_eq_false_iff_not]
  rw [Int.toNat_of_nonneg h0,<-O5];exact this
 rw [HD]
 unfold zD
 rw [h]
theorem Vw {S:List Int} {v:Nat} (h:(v:Int)∉S):S.findIdx? (λy=>decide (y=(v:Int)))=none:=by
 rw [Bg]
 intro x hx
 exact decide_eq_false λe=>h (e ▸ hx)
theorem ahp {I:Nat} {gs:List Gate} {S:List Int} (h:∀x∈S,2<=x):kC I gs S 0=0:=by
 rw [HD];unfold zD
 have hg:fV I gs 0=none:=by unfold fV;rw [if_pos (by omega)]
 rw [Vw λhm=>by have:=h _ hm;omega]
 simp only [hg]
 rfl
theorem ahq {I:Nat} {gs:List Gate} {S:List Int} (h:∀x∈S,2<=x):kC I gs S 1=-1:=by
 rw [HD];unfold zD
 rw [Vw λhm=>by have:=h _ hm;omega]
 rfl
def uJ (m:Int->Option Int) (v t:Int):Int->Option Int:=λj=>if j=v then some t else m j
theorem UL (m:Int->Option Int) (v t:Int):uJ m v t v=some t:=by unfold uJ;rw [if_pos rfl]
theorem Bv {m:Int->Option Int} {v t u:Int} (h:u≠v):uJ m v t u=m u:=by unfold uJ;rw [if_neg h]
structure Ay (S:List Int) (j:Nat) (m:Int->Option Int):Prop where
 le:j<=S.length
 zero:m 0=some 0
 one:m 1=some (-1)
 leaf:∀i x,i < j->S[i]?=some x->m x=some (uu i)
theorem Ay.step {S:List Int} {j:Nat} {m:Int->Option Int} (h:Ay S j m) (hn:S.Nodup) (h2:∀x∈S,2<=x) {x:Int} (hx:S[j]?=some x):Ay S (j+1) (uJ m x (uu j)):=by
 have om:=h2 x (cL hx)
 obtain ⟨aQ,iy⟩:=bq.1 hx
 refine ⟨aQ,by rw [Bv (by omega)];exact h.zero,by rw [Bv (by omega)];exact h.one,λi y hi hy=>?_⟩
 by_cases e:i=j
 ·subst e;rw [hx] at hy;cases hy;exact UL _ _ _
 ·obtain ⟨bP,hyi⟩:=bq.1 hy
  have:=rA.1 hn i j bP aQ (by omega)
  rw [Bv (by rw [<-hyi,<-iy];exact this)]
  exact h.leaf i y (by omega) hy
structure wF (I:Nat) (gs:List Gate) (S l:List Int) (i:Nat) (m:Int->Option Int):Prop where
 le:i<=l.length
 lo:∀u:Int,0<=u->u < 2->m u=some (kC I gs S u.toNat)
 leaf:∀u∈S,m u=some (kC I gs S u.toNat)
 nd:∀u∈l.take i,m u=some (kC I gs S u.toNat)
theorem Ay.fin {I:Nat} {gs:List Gate} {S:List Int} {j:Nat} {m:Int->Option Int} (h:Ay S j m) (hj:S.length<=j) (hn:S.Nodup) (h2:∀x∈S,2<=x) (l:List Int):wF I gs S l 0 m:=by
 refine ⟨cK _,λu h0 h1=>?_,λu hu=>?_,by simp⟩
 ·rcases (by omega:u=0\/u=1) with rfl|rfl
  ·rw [h.zero];exact congrArg some (ahp h2).symm
  ·rw [h.one];exact congrArg some (ahq h2).symm
 ·obtain ⟨i,hi⟩:=qC hu
  rw [h.leaf i u (by have:=(bq.1 hi).1;omega) hi,adP hn hi (by have:=h2 u hu;omega)]
theorem wF.step {I:Nat} {gs:List Gate} {S l:List Int} {i:Nat} {m:Int->Option Int} (h:wF I gs S l i m) {v:Int} (hv:l[i]?=some v) (h2:2<=v) (hm:v∉S):wF I gs S l (i+1) (uJ m v (kC I gs S v.toNat)):=by
 refine ⟨(bq.1 hv).1,λu h0 h1=>by rw [Bv (by omega)];exact h.lo u h0 h1,λu hu=>by rw [Bv λe=>hm (by rw [<-e];exact hu)];exact h.leaf u hu,λu hu=>?_⟩
 by_cases e:u=v
 ·subst e;exact UL _ _ _
 ·rw [Bv e]
  rw [jm,hv] at hu
  rcases eA.1 hu with hu|hu
  ·exact h.nd u hu
  ·simp at hu;exact absurd hu e
theorem wF.op {I:Nat} {gs:List Gate} (G:cv I gs) {S l:List Int} {root:Int} (hc:gV I gs root S=some l) {i:Nat} {m:Int->Option Int} (h:wF I gs S l i m) {v:Int} (hv:l[i]?=some v) {g:Gate} (hg:fV I gs v.toNat=some g) (h7:g.op≠7) {o:Int} (ho:o∈cI g):m o=some (kC I gs S o.toNat):=by
 obtain ⟨kB,fL⟩:=DG G hc
 obtain ⟨wx,ZG,CN⟩:=(fL v).1 (cL hv)
 have PO:((v.toNat:Nat):Int)=v:=Int.toNat_of_nonneg (by omega)
 have ZH:o∈pw I gs S v.toNat:=qH.2 ⟨by rw [PO];exact CN,g,hg,h7,ho⟩
 have aQ:=Ei G ZH
 by_cases h1:o < 2
 ·exact h.lo o aQ.1 h1
 ·by_cases h2:o∈S
  ·exact h.leaf o h2
  ·have Fo:o∈l:=(fL o).2 ⟨by omega,.step ZG ZH,h2⟩
   obtain ⟨j,hj⟩:=qC Fo
   obtain ⟨e7,sw⟩:=bq.1 hj
   obtain ⟨bP,lY⟩:=bq.1 hv
   have qY:j < i:=by
    rcases Ln j i with q|q|q
    ·exact q
    ·subst q;rw [sw] at lY;omega
    ·have:=rA.1 kB i j bP e7 q;omega
   refine h.nd o (cL (i:=j) ?_)
   rw [kP,if_pos qY];exact hj
theorem KQ {I:Nat} {gs:List Gate} {S l:List Int} {root:Int} (h:gV I gs root S=some l):Ej (2+I+gs.length) root S:=by
 unfold gV at h
 split at h
 ·exact yM.1 (by assumption)
 ·cases h
theorem acE {I:Nat} {gs:List Gate} (G:cv I gs) {S l:List Int} {root:Int} (h:gV I gs root S=some l):root∈S\/root∈l:=by
 have hL:=KQ h
 by_cases hm:root∈S
 ·exact .inl hm
 ·exact .inr (((DG G h).2 root).2 ⟨hL.lo,.base rfl,hm⟩)
theorem ahr (g:Gate):g.a∈cI g:=by unfold cI kb;split<;>(try split)<;>simp
theorem ahs {g:Gate} (h:2<=kb g.op):g.b∈cI g:=by
 unfold cI kb at *
 split at h
 ·omega
 ·split at h<;>simp_all
theorem aht {g:Gate} (h:3<=kb g.op):g.c∈cI g:=by
 unfold cI kb at *
 split at h
 ·omega
 ·split at h
  ·omega
  ·simp_all
theorem adQ {I:Nat} {gs:List Gate} (G:cv I gs) {S l:List Int} {root:Int} (h:gV I gs root S=some l):l.length<=600:=by
 have hL:=KQ h
 have hb:=G.oR
 have h1:=hL.lo
 have h2:=hL.hi
 unfold gV at h
 split at h
 ·simp only at h
  split at h
  ·cases h
   rw [kr]
   refine mV (Dl _ _) ?_
   rw [G8];omega
  ·cases h
 ·cases h
theorem acF {I:Nat} {gs:List Gate} (G:cv I gs) {S l:List Int} {root:Int} (h:gV I gs root S=some l) {v:Int} (hv:v∈l):∃g,fV I gs v.toNat=some g/\g.op≠7:=by
 obtain ⟨h2,hr,hS⟩:=((DG G h).2 v).1 hv
 have PO:((v.toNat:Nat):Int)=v:=Int.toNat_of_nonneg (by omega)
 unfold gV at h
 split at h
 ·simp only at h
  split at h
  ·rename_i eV
   simp only [cf] at eV
   have:=gK.1 eV.1 v.toNat (lR.2 (by have:=gy.le G hr;omega))
   rw [(sW G).2 hr] at this
   rcases yV.1 (by simpa using this) with q|q|q
   ·rw [PO] at q;exact absurd q hS
   ·omega
   ·exact q
  ·cases h
 ·cases h
structure ai6 where
 n:Net
 root:Int
 S:List Int
 t:Int
 e:Int
structure Og (n:Net) (root:Int) (S:List Int) (t e:Int):Prop where
 G:cv n.ins.length n.bU
 jt:S.length<=1000000
 eq:qN n.ins.length n.bU root S=(t,e)
@[reducible] noncomputable def Xz:Vc.Spec where
 α:=ai6
 args x:=[.agg (oj x.n),.i .i64 (λ_=>x.root),.sl 1 bH (λ_=>x.S)]
 pre x:=Og x.n x.root x.S x.t x.e
 res x:=.bX [.i .i64 (λ_=>x.t),.i .i64 (λ_=>x.e)]
noncomputable def ai7 (n m:Nat):Ctx:=cP n m [] [(41,Xy),(43,N7),(42,Xj),(44,Xk)]
theorem M6 (n m:Nat):CB PP (ai7 n m):=cR n m trivial ⟨afU,Vh,afx,afy,trivial⟩
theorem afV:dm (PP ()) 36 Xz:=by
 refine fl (M6 0 0) (fo Try.func36) (λa=>⟨td a.n,trivial,λx=>(dq x).1,trivial⟩) (λa=>⟨trivial,trivial,trivial⟩) ?_
 rintro ⟨⟨ins,gs,outs,dr⟩,root,S,t,e⟩ hx
 obtain ⟨G,hS,sH⟩:Og ⟨ins,gs,outs,dr⟩ root S t e:=hx
 have G:cv ins.length gs:=G
 have sH:qN ins.length gs root S=(t,e):=sH
 have hb:=G.oR
 rcases hc:gV ins.length gs root S with _|l
 ·have ye:Jc ⟨ins,gs,outs,dr⟩ root S none:=⟨G,hS,hc⟩
  unfold qN at sH
  rw [hc] at sH
  cases sH
  refine ⟨?_⟩
  cbv
  refine ⟨⟨⟨ins,gs,outs,dr⟩,root,S,none⟩,⟨by exact a7,ye⟩,?_⟩
  cbv
  exact ⟨by exact a7⟩
 have ye:Jc ⟨ins,gs,outs,dr⟩ root S (some l):=⟨G,hS,hc⟩
 have hL:=KQ hc
 have yl:=hL.inc.nodup
 have uT:∀x∈S,2<=x:=λx hx=>(hL.mem x hx).1
 have hS4:=hL.len
 obtain ⟨kB,fL⟩:=DG G hc
 have nm:=adQ G hc
 have hgN:∀v:Int,0<=v->∀g,fV ins.length gs v.toNat=some g->v < vI ⟨ins,gs,outs,dr⟩:=λv h0 g hg=>by
  obtain ⟨i,hi,pk⟩:=pH.1 hg
  have:=(bq.1 pk).1
  show v < 2+(ins.length:Int)+gs.length
  omega
 refine ⟨?_⟩
 cbv
 refine ⟨⟨⟨ins,gs,outs,dr⟩,root,S,some l⟩,⟨by exact a7,ye⟩,?_⟩
 cbv
 refine ⟨0,⟨by exact a7⟩,?_⟩
 cbv
 refine ⟨-1,⟨by exact a7⟩,?_⟩
 cbv
 refine Sat.eE (M6 0 0) 2 11 [] (λy:Nat × (Int->Option Int)=>[(28,.sl 1 bH (λ_=>S)),(29,.i .i64 (λ_=>(S.length:Int))),(30,.i .i64 (λ_=>(y.1:Int)))]) (λy=>[(1,.map (.int .i64) bH (λ_=>y.2))]) (λy=>Ay S y.1 y.2) (λy=>S.length - y.1) (0,uJ (uJ (λ_=>none) 0 0) 1 (-1)) (by exact aW) (by exact aW) ⟨cK _,rfl,rfl,λi x h=>absurd h (sZ _)⟩ ?_
 rintro ⟨j,m⟩ hJ
 have hJ:Ay S j m:=hJ
 have e7:=hJ.le
 have l7:=n0 j
 have oS:=eO (i:=j) (by omega)
 cbv
 refine ⟨λh=>?_,λh=>?_⟩
 ·have wg:j < S.length:=aL
  have cy:S.length - (j+1) < S.length - j:=by omega
  refine (cC wg).elim λx hx=>?_
  have hj4:j < 4:=by omega
  obtain ⟨C,hC⟩:∃C,uu j=C:=⟨_,rfl⟩
  have bW:=hJ.step yl uT hx
  rw [hC] at bW
  obtain ⟨m2,kY⟩:∃m2,uJ m x C=m2:=⟨_,rfl⟩
  rw [kY] at bW
  have tQ:(λk=>if k=x then some C else m k)=m2:=kY
  clear h
  cbv
  refine ⟨x,⟨l7,hx⟩,?_⟩
  cbv
  refine ⟨j,⟨by exact a7,hj4⟩,?_⟩
  cbv
  refine ⟨C,⟨by have bE:=hC;exact bJ⟩,?_⟩
  cbv
  exact ⟨(j+1,m2),by have bE:=oS;exact a8,by have qW:=tQ;exact a8,⟨⟨bW,cy⟩⟩⟩
 have b9:S.length<=j:=aL
 have hT0:=hJ.fin (I:=ins.length) (gs:=gs) b9 yl uT l
 clear h l7 oS
 cbv
 refine Sat.eE (M6 0 0) 2 11 [] (λy:Nat × (Int->Option Int)=>[(40,.sl 1 bH (λ_=>l)),(41,.i .i64 (λ_=>(l.length:Int))),(42,.i .i64 (λ_=>(y.1:Int)))]) (λy=>[(1,.map (.int .i64) bH (λ_=>y.2))]) (λy=>wF ins.length gs S l y.1 y.2) (λy=>l.length - y.1) (0,m) (by exact aW) (by exact aW) hT0 ?_
 rintro ⟨i,m⟩ hT
 have hT:wF ins.length gs S l i m:=hT
 have bP:=hT.le
 have dP:=n0 i
 cbv
 refine ⟨λh=>?_,λh=>?_⟩
 ·have yg:i < l.length:=aL
  have cy:l.length - (i+1) < l.length - i:=by omega
  refine (cC yg).elim λv hv=>?_
  obtain ⟨wx,ZG,CN⟩:=(fL v).1 (cL hv)
  obtain ⟨g,hg,h7⟩:=acF G hc (cL hv)
  have ko:0<=v:=wY (by decide) wx
  have fN:pS ⟨ins,gs,outs,dr⟩ v=(g,true):=by
   unfold pS
   rw [show fV (Net.mk ins gs outs dr).ins.length (Net.mk ins gs outs dr).bU v.toNat=some g from hg]
   simp only [if_neg h7]
  have tE:ins.length<=1000/\gs.length<=1000/\0<=v/\v < vI ⟨ins,gs,outs,dr⟩/\pS ⟨ins,gs,outs,dr⟩ v=(g,true):=⟨by omega,by omega,ko,hgN v ko g hg,fN⟩
  have e8:∀o∈cI g,m o=some (kC ins.length gs S o.toNat):=λo ho=>hT.op G hc hv hg h7 ho
  have hA:=e8 g.a (ahr g)
  obtain ⟨ta,OU⟩:∃ta,kC ins.length gs S g.a.toNat=ta:=⟨_,rfl⟩
  obtain ⟨R,hR⟩:∃R,kC ins.length gs S v.toNat=R:=⟨_,rfl⟩
  have Iy:∀B C,(∀t,m g.b=some t->B=t)->(∀t,m g.c=some t->C=t)->combineM g.op ta B C=R:=λB C hB hC=>by
   rw [<-hR,ace G (by rw [Int.toNat_of_nonneg ko];exact CN) hg]
   exact acD OU.symm (λh=>hB _ (e8 _ (ahs h))) (λh=>hC _ (e8 _ (aht h)))
  have bW:=hT.step hv wx CN
  rw [OU] at hA
  rw [hR] at bW
  obtain ⟨m2,kY⟩:∃m2,uJ m v R=m2:=⟨_,rfl⟩
  rw [kY] at bW
  have tQ:(λk=>if k=v then some R else m k)=m2:=kY
  have gB:=eO (i:=i) (by omega)
  have gl:wF ins.length gs S l (i+1) m2/\l.length - (i+1) < l.length - i:=⟨bW,cy⟩
  clear h
  rcases hB:m g.b with _|tb<;>rcases hC:m g.c with _|tc
  ·have lX:=Iy 0 0 (λt h=>by rw [hB] at h;cases h) (λt h=>by rw [hC] at h;cases h)
   cbv
   refine ⟨v,⟨dP,hv⟩,?_⟩
   cbv
   refine ⟨⟨⟨ins,gs,outs,dr⟩,v,g,true⟩,⟨by exact a7,tE⟩,?_⟩
   cbv
   refine ⟨some (some ta),⟨hA⟩,?_⟩
   cbv
   refine ⟨some none,⟨hB⟩,?_⟩
   cbv
   refine ⟨some none,⟨hC⟩,?_⟩
   cbv
   refine ⟨⟨g.op,ta,0,0,R⟩,⟨by exact a7,lX⟩,?_⟩
   cbv
   refine ⟨R,⟨by exact a7⟩,?_⟩
   cbv
   exact ⟨(i+1,m2),by have bE:=gB;exact a8,by have qW:=tQ;exact a8,⟨gl⟩⟩
  ·have lX:=Iy 0 tc (λt h=>by rw [hB] at h;cases h) (λt h=>by rw [hC] at h;cases h;rfl)
   cbv
   refine ⟨v,⟨dP,hv⟩,?_⟩
   cbv
   refine ⟨⟨⟨ins,gs,outs,dr⟩,v,g,true⟩,⟨by exact a7,tE⟩,?_⟩
   cbv
   refine ⟨some (some ta),⟨hA⟩,?_⟩
   cbv
   refine ⟨some none,⟨hB⟩,?_⟩
   cbv
   refine ⟨some (some tc),⟨hC⟩,?_⟩
   cbv
   refine ⟨⟨g.op,ta,0,tc,R⟩,⟨by exact a7,lX⟩,?_⟩
   cbv
   refine ⟨R,⟨by exact a7⟩,?_⟩
   cbv
   exact ⟨(i+1,m2),by have bE:=gB;exact a8,by have qW:=tQ;exact a8,⟨gl⟩⟩
  ·have lX:=Iy tb 0 (λt h=>by rw [hB] at h;cases h;rfl) (λt h=>by rw [hC] at h;cases h)
   cbv
   refine ⟨v,⟨dP,hv⟩,?_⟩
   cbv
   refine ⟨⟨⟨ins,gs,outs,dr⟩,v,g,true⟩,⟨by exact a7,tE⟩,?_⟩
   cbv
   refine ⟨some (some ta),⟨hA⟩,?_⟩
   cbv
   refine ⟨some (some tb),⟨hB⟩,?_⟩
   cbv
   refine ⟨some none,⟨hC⟩,?_⟩
   cbv
   refine ⟨⟨g.op,ta,tb,0,R⟩,⟨by exact a7,lX⟩,?_⟩
   cbv
   refine ⟨R,⟨by exact a7⟩,?_⟩
   cbv
   exact ⟨(i+1,m2),by have bE:=gB;exact a8,by have qW:=tQ;exact a8,⟨gl⟩⟩
  ·have lX:=Iy tb tc (λt h=>by rw [hB] at h;cases h;rfl) (λt h=>by rw [hC] at h;cases h;rfl)
   cbv
   refine ⟨v,⟨dP,hv⟩,?_⟩
   cbv
   refine ⟨⟨⟨ins,gs,outs,dr⟩,v,g,true⟩,⟨by exact a7,tE⟩,?_⟩
   cbv
   refine ⟨some (some ta),⟨hA⟩,?_⟩
   cbv
   refine ⟨some (some tb),⟨hB⟩,?_⟩
   cbv
   refine ⟨some (some tc),⟨hC⟩,?_⟩
   cbv
   refine ⟨⟨g.op,ta,tb,tc,R⟩,⟨by exact a7,lX⟩,?_⟩
   cbv
   refine ⟨R,⟨by exact a7⟩,?_⟩
   cbv
   exact ⟨(i+1,m2),by have bE:=gB;exact a8,by have qW:=tQ;exact a8,⟨gl⟩⟩
 have b9:l.length<=i:=aL
 have ZI:m root=some (kC ins.length gs S root.toNat):=by
  rcases acE G hc with q|q
  ·exact hT.leaf root q
  ·exact hT.nd root (by rw [jj b9];exact q)
 obtain ⟨tr,ZJ⟩:∃tr,kC ins.length gs S root.toNat=tr:=⟨_,rfl⟩
 rw [ZJ] at ZI
 unfold qN zn at sH
 rw [hc,ZJ] at sH
 obtain ⟨ht,he⟩:=Prod.mk.inj sH
 have s1:(0:Int)<=((S.length:Nat):Int):=n0 _
 have s3:0<=IntKind.u64.wrap (1*2^min ((S.length:Nat):Int).toNat IntKind.u64.bits)/\IntKind.i64.wrap (IntKind.i64.wrap (1*2^min (IntKind.u64.wrap (1*2^min ((S.length:Nat):Int).toNat IntKind.u64.bits)).toNat IntKind.i64.bits) - 1)=2^2^S.length - 1:=by
  have:S.length=0\/S.length=1\/S.length=2\/S.length=3\/S.length=4:=by omega
  rcases this with q|q|q|q|q<;>rw [q]<;>decide
 obtain ⟨s2,s4⟩:=s3
 have nf:fC .and .i64 tr (IntKind.i64.wrap (IntKind.i64.wrap (1*2^min (IntKind.u64.wrap (1*2^min ((S.length:Nat):Int).toNat IntKind.u64.bits)).toNat IntKind.i64.bits) - 1))=t:=by rw [s4];exact ht
 clear h s4
 cbv
 refine ⟨some (some tr),⟨ZI⟩,?_⟩
 cbv
 exact ⟨⟨s1⟩,⟨s2⟩,⟨by have bE:=nf;have gE:=he;exact bJ⟩⟩
theorem RZ {sig:Int->Option Int}:∀{S:List Int} {i:Nat} {x:Int},(∀j y,j < i->S[j]?=some y->(sig y).isSome=true)->S[i]?=some x->sig x=none->mw sig S=((S.take i).map λy=>(sig y).getD 0,false)
 | [],i,x,_,h,_=>by simp at h
 | y :: S,0,x,_,h,hn=>by
  simp at h;subst h
  unfold mw;rw [hn];rfl
 | y :: S,i+1,x,ha,h,hn=>by
  have hy:=ha 0 y (by omega) rfl
  obtain ⟨s,hs⟩:=qA.1 hy
  have ih:=RZ (S:=S) (i:=i) (x:=x) (λj z hj hz=>ha (j+1) z (by omega) hz) h hn
  unfold mw
  simp only [hs,ih,List.take_succ_cons,il,rE]
theorem abP {sig:Int->Option Int} {S:List Int} (h:∀j y,j < S.length->S[j]?=some y->(sig y).isSome=true):mw sig S=(S.map λy=>(sig y).getD 0,true) :=
 GV λx hx=>by
  obtain ⟨j,hj⟩:=qC hx
  exact qA.1 (h j x (bq.1 hj).1 hj)
structure ai8 where
 n:Net
 root:Int
 S:List Int
 sig:Int->Option Int
 c:Cell
 e:Int
structure Jd (n:Net) (root:Int) (S:List Int) (sig:Int->Option Int) (c:Cell) (e:Int):Prop where
 G:cv n.ins.length n.bU
 jt:S.length<=1000000
 lo:2+(n.ins.length:Int)<=root
 hi:root < 2+(n.ins.length:Int)+n.bU.length
 eq:cellOf n.ins.length n.bU root S sig=(c,e)
@[reducible] noncomputable def Oh:Vc.Spec where
 α:=ai8
 args x:=[.agg (oj x.n),.i .i64 (λ_=>x.root),.sl 1 bH (λ_=>x.S),.mp (.int .i64) bH (λ_=>x.sig)]
 pre x:=Jd x.n x.root x.S x.sig x.c x.e
 res x:=.bX [.agg (mC x.c),.i .i64 (λ_=>x.e)]
noncomputable def ai9 (n m:Nat):Ctx:=cP n m [] [(35,I4),(22,N8),(36,Xz)]
theorem Vx (n m:Nat):CB PP (ai9 n m):=cR n m trivial ⟨MX,Vi,afV,trivial⟩
theorem Vy:dm (PP ()) 21 Oh:=by
 refine fl (Vx 0 0) (fo Try.func21) (λa=>⟨td a.n,trivial,λx=>(dq x).1,λx=>(dq x).1,trivial⟩) (λa=>⟨(Bp _).1,trivial,trivial⟩) ?_
 rintro ⟨⟨ins,gs,outs,dr⟩,root,S,sig,⟨ci,ct,cr⟩,e⟩ hx
 obtain ⟨G,hS,gS,jE,nt⟩:Jd ⟨ins,gs,outs,dr⟩ root S sig ⟨ci,ct,cr⟩ e:=hx
 have G:cv ins.length gs:=G
 have gS:2+(ins.length:Int)<=root:=gS
 have jE:root < 2+(ins.length:Int)+gs.length:=jE
 have nt:cellOf ins.length gs root S sig=(⟨ci,ct,cr⟩,e):=nt
 have hb:=G.oR
 obtain ⟨Rf,mH⟩:∃Rf:Nat->List Int,∀i,Rf i=(S.take i).map λy=>(sig y).getD 0:=⟨_,λ_=>rfl⟩
 have CK:[]=Rf 0:=by rw [mH];rfl
 have Aw:∀(i:Nat) (x s:Int),S[i]?=some x->sig x=some s->Rf i++[s]=Rf (i+1):=λi x s hx hs=>by
  rw [mH,mH,jm,hx,nJ,vy,il,Hf,hs];rfl
 have JT:∀i,i<=S.length->(Rf i).length=i:=λi hi=>by rw [mH,kr,lQ];omega
 have Nv:∀(i:Nat) (x:Int),(∀j y,j < i->S[j]?=some y->(sig y).isSome=true)->S[i]?=some x->sig x=none->Rf i=ci/\0=ct/\-1=cr/\260=e:=λi x h1 h2 h3=>by
  have hc:=nt
  unfold cellOf at hc
  rw [RZ h1 h2 h3,<-mH] at hc
  simp only [mT,if_false,Prod.mk.injEq,Cell.mk.injEq] at hc
  obtain ⟨⟨a,b,c⟩,d⟩:=hc
  exact ⟨a,b,c,d⟩
 obtain ⟨A,hA⟩:∃A,Rf S.length=A:=⟨_,rfl⟩
 have pk:root.toNat - 2 - ins.length < gs.length:=by omega
 obtain ⟨g,hg⟩:=cC (l:=gs) pk
 have ZK:fV ins.length gs root.toNat=some g:=pH.2 ⟨_,by omega,hg⟩
 obtain ⟨tt,te,ZL⟩:∃tt te,qN ins.length gs root S=(tt,te):=⟨_,_,rfl⟩
 have aja:(∀j y,j < S.length->S[j]?=some y->(sig y).isSome=true)->(if g.op=7 then ((⟨A,0,g.n⟩:Cell),if S=cI g then (0:Int) else 260) else if S=[root] then (⟨A,0,-1⟩,260) else (⟨A,tt,-1⟩,if te=0 then 0 else 260))=(⟨ci,ct,cr⟩,e):=λh=>by
  have hc:=nt
  unfold cellOf at hc
  have hm:S.map (λy=>(sig y).getD 0)=A:=by rw [<-hA,mH,List.take_length]
  rw [abP h,hm] at hc
  simp only [if_true,ZK,ZL] at hc
  exact hc
 have w1:IntKind.i64.wrap (root - 2)=root - 2:=ei (by omega) (by omega)
 have w2:IntKind.i64.wrap (IntKind.i64.wrap (root - 2) - (ins.length:Int))=root - 2 - ins.length:=by rw [w1];exact ei (by omega) (by omega)
 have Fg:0<=IntKind.i64.wrap (IntKind.i64.wrap (root - 2) - (ins.length:Int))/\gs[(IntKind.i64.wrap (IntKind.i64.wrap (root - 2) - (ins.length:Int))).toNat]?=some g:=by
  rw [w2]
  refine ⟨by omega,?_⟩
  rw [show (root - 2 - (ins.length:Int)).toNat=root.toNat - 2 - ins.length by omega];exact hg
 have uT:S.length<=1000000000000:=by omega
 clear nt ZK
 refine ⟨?_⟩
 cbv
 refine Sat.pQ 2 0 3 1 zo dq rfl rfl ?_
 cbv
 refine Sat.eE (Vx 0 0) 4 11 [(.c 2 0,3)] (λi:Nat=>[(18,.sl 1 bH (λ_=>S)),(19,.i .i64 (λ_=>(S.length:Int))),(20,.i .i64 (λ_=>(i:Int)))]) (λi=>[(2,.fix 57 [.own 3,.ic .i64 0,.ic .i64 (-1)]),(3,.dyn 3 1 bH (λ_=>Rf i))]) (λi=>i<=S.length/\∀j y,j < i->S[j]?=some y->(sig y).isSome=true) (λi=>S.length - i) 0 (by exact aW) (by have eG:=CK;exact a8) ⟨cK _,λj y h=>absurd h (sZ _)⟩ ?_
 intro i hi
 obtain ⟨hi,PQ⟩:i<=S.length/\∀j y,j < i->S[j]?=some y->(sig y).isSome=true:=hi
 have dP:=n0 i
 have gB:=eO (i:=i) (by omega)
 have hRi:=JT i hi
 have b1:((Rf i).length+1)*8<=140737488355328:=by omega
 have b2:(Rf i).length+1<=9223372036854775807:=by omega
 cbv
 refine ⟨λh=>?_,λh=>?_⟩
 ·have bP:i < S.length:=aL
  have cy:S.length - (i+1) < S.length - i:=by omega
  refine (cC bP).elim λx hx=>?_
  clear h
  rcases hs:sig x with _|s
  ·obtain ⟨e1,e2,e3,e4⟩:=Nv i x PQ hx hs
   cbv
   refine ⟨x,⟨dP,hx⟩,?_⟩
   cbv
   refine ⟨some none,⟨hs⟩,?_⟩
   cbv
   exact ⟨by have iz:=e1;have gE:=e2;have yf:=e3;have JF:=e4;exact bJ⟩
  ·have wB:=Aw i x s hx hs
   have bW:(i+1<=S.length/\∀j y,j < i+1->S[j]?=some y->(sig y).isSome=true)/\S.length - (i+1) < S.length - i:=⟨⟨bP,λj y hj hy=>by
    by_cases q:j=i
    ·subst q;rw [hx] at hy;cases hy;rw [hs];rfl
    ·exact PQ j y (by omega) hy⟩,cy⟩
   cbv
   refine ⟨x,⟨dP,hx⟩,?_⟩
   cbv
   refine ⟨some (some s),⟨hs⟩,?_⟩
   cbv
   refine ⟨[s],⟨by exact a7,b1,b2⟩,?_⟩
   cbv
   exact ⟨i+1,by have bE:=gB;exact a8,by have eG:=wB;exact a8,⟨bW⟩⟩
 have b9:S.length<=i:=aL
 have hiS:i=S.length:=by omega
 subst hiS
 have hf:=aja PQ
 obtain ⟨O,hO⟩:∃O,cI g=O:=⟨_,rfl⟩
 have ZB:O.length<=1000000000000:=by have:=(y6 g).2;rw [hO] at this;omega
 rw [hO] at hf
 clear h
 cbv
 refine ⟨g,⟨Fg⟩,?_⟩
 cbv
 refine ⟨λh=>?_,λh=>?_⟩
 ·have h7:g.op=7:=aL
  rw [if_pos h7] at hf
  obtain ⟨⟨e1,e2,e3⟩,e4⟩:(A=ci/\0=ct/\g.n=cr)/\(if S=O then (0:Int) else 260)=e:=by simpa only [Prod.mk.injEq,Cell.mk.injEq] using hf
  have e1:=hA.trans e1
  clear h
  cbv
  refine ⟨g,⟨by exact a7,trivial⟩,?_⟩
  cbv
  refine ⟨⟨S,O⟩,⟨by have iz:=hO;exact bJ,⟨uT,ZB⟩⟩,?_⟩
  cbv
  refine ⟨λh=>?_,λh=>?_⟩
  ·have bM:¬S=O:=by have h':(!decide (S=O))=true:=h.out;simpa using h'
   rw [if_neg bM] at e4
   cbv
   exact ⟨by have iz:=e1;have gE:=e2;have bE:=e3;have yf:=e4;exact bJ⟩
  ·have heq:S=O:=by have h':(!decide (S=O))=false:=h.out;simpa using h'
   rw [if_pos heq] at e4
   cbv
   exact ⟨by have iz:=e1;have gE:=e2;have bE:=e3;have yf:=e4;exact bJ⟩
 have h7:¬g.op=7:=aL
 rw [if_neg h7] at hf
 have yu:([root]:List Int).length<=1000000000000:=by show 1<=1000000000000;decide
 clear h
 cbv
 refine ⟨⟨S,[root]⟩,⟨.inl ⟨by exact a7,rfl⟩,⟨uT,yu⟩⟩,?_⟩
 cbv
 refine ⟨λh=>?_,λh=>?_⟩
 ·have heq:S=[root]:=by have h':decide (S=[root])=true:=h.out;simpa using h'
  rw [if_pos heq] at hf
  obtain ⟨⟨e1,e2,e3⟩,e4⟩:(A=ci/\0=ct/\-1=cr)/\(260:Int)=e:=by simpa only [Prod.mk.injEq,Cell.mk.injEq] using hf
  have e1:=hA.trans e1
  cbv
  exact ⟨by have iz:=e1;have gE:=e2;have yf:=e3;have JF:=e4;exact bJ⟩
 have bM:¬S=[root]:=by have h':decide (S=[root])=false:=h.out;simpa using h'
 rw [if_neg bM] at hf
 obtain ⟨⟨e1,e2,e3⟩,e4⟩:(A=ci/\tt=ct/\-1=cr)/\(if te=0 then (0:Int) else 260)=e:=by simpa only [Prod.mk.injEq,Cell.mk.injEq] using hf
 have e1:=hA.trans e1
 have JH:Og ⟨ins,gs,outs,dr⟩ root S tt te:=⟨G,hS,ZL⟩
 clear h
 cbv
 refine ⟨⟨⟨ins,gs,outs,dr⟩,root,S,tt,te⟩,⟨by exact a7,JH⟩,?_⟩
 cbv
 refine ⟨λh=>?_,λh=>?_⟩
 ·have sH:¬te=0:=aL
  rw [if_neg sH] at e4
  cbv
  exact ⟨by have iz:=e1;have bE:=e2;have gE:=e3;have yf:=e4;exact bJ⟩
 ·have sH:te=0:=aL
  rw [if_pos sH] at e4
  cbv
  exact ⟨by have iz:=e1;have bE:=e2;have gE:=e3;have yf:=e4;exact bJ⟩
end Go.Proofs.Pk
