import Derived.Test.YthnhbemmlfaihaaR13
import Derived.Test.YthnhbemmlfaihaaR14
import Derived.Test.YthnhbemmlfaihaaR15
import Derived.Test.YthnhbemmlfaihaaR18
import Derived.Test.YthnhbemmlfaihaaR24
set_option linter.unusedVariables false
set_option linter.unusedSimpArgs false
set_option maxRecDepth 10000
set_option maxHeartbeats 64000000
namespace Go.Proofs.Pk
open Go Go.Vc
theorem acp {s s':dV} {g:Gate} (h:uL s g=some s'):∃l,s'.labels=s.labels++[1+cd s.labels l]:=by
 unfold uL at h
 dsimp only at h
 split at h
 ·cases h;exact ⟨_,rfl⟩
 ·split at h
  ·cases h
  ·split at h
   ·cases h
   ·cases h;exact ⟨_,rfl⟩
theorem Vl {I:Nat}:∀(n:Nat) {gs:List Gate} {s:dV},gs.length=n->iS I gs=some s->∀x∈s.labels,x<=(n:Int)
 | 0,gs,s,hl,h,x,hx=>by
  obtain rfl:=gI hl
  cases h
  have:=(Bx.1 hx).2
  omega
 | n+1,gs,s,hl,h,x,hx=>by
  rcases List.eq_nil_or_concat gs with rfl|⟨hs,g,rfl⟩
  ·simp at hl
  rw [List.concat_eq_append] at h hl
  rw [HZ] at h
  cases hp:iS I hs with
  | none=>rw [hp] at h;cases h
  | some s0 =>
   rw [hp] at h
   have yR:hs.length=n:=by simp at hl;omega
   have ih:=Vl n yR hp
   obtain ⟨l,e⟩:=acp (show uL s0 g=some s from h)
   rw [e] at hx
   rcases eE.1 hx with hx|hx
   ·have:=ih x hx;omega
   ·rw [qR] at hx
    have:cd s0.labels l<=(n:Int):=xD (by omega) λv _=>by
     rw [List.getD_eq_getElem?_getD]
     cases hv:s0.labels[v.toNat]? with
     | none=>show (0:Int)<=n;omega
     | some y=>exact ih y (cN hv)
    omega
theorem Up:∀(U N:List (List Int)),(U.foldl qX N).length<=N.length+U.length
 | [],N=>fT _
 | u :: U,N=>by
  rw [mA]
  have h1:=Up U (qX N u)
  have h2:(qX N u).length<=N.length+1:=by
   unfold qX
   split
   ·exact Uo N u
   ·omega
  rw [oN];omega
theorem Uq (Co:List (List Int)):∀A:List (List Int),(A.flatMap λa=>Co.map λb=>jX a b).length=A.length*Co.length
 | []=>by simp
 | a :: A=>by
  rw [oM,fS,Uq Co A,kF,oN,Nat.add_mul];omega
theorem ac4 (A Co:List (List Int)):(qj A Co).length<=A.length*Co.length:=by
 have:=Up (A.flatMap λa=>Co.map λb=>jX a b) []
 rw [Uq,BA,ni] at this
 exact this
theorem Ur {C:List (List (List Int))} (hC:∀c∈C,c.length<=400):∀(ops:List Int) (A:List (List Int)),(ops.foldl (λall o=>qj all (C.getD o.toNat [])) A).length<=A.length*400^ops.length
 | [],A=>by simp
 | o :: r,A=>by
  rw [mA]
  have h1:=Ur hC r (qj A (C.getD o.toNat []))
  have h2:(C.getD o.toNat []).length<=400:=by
   rw [List.getD_eq_getElem?_getD]
   cases h:C[o.toNat]? with
   | none=>exact cP _
   | some c=>exact hC c (cN h)
  have h3:=nj (ac4 A (C.getD o.toNat [])) (Nat.mul_le_mul_left A.length h2)
  have h4:=uz (400^r.length) h3
  rw [oN,Nat.pow_succ,Nat.mul_comm (400^r.length) 400,<-Nat.mul_assoc]
  exact nj h1 h4
theorem acq {C:List (List (List Int))} (hC:∀c∈C,c.length<=400) {ops:List Int} (ho:ops.length<=3):(n9 C ops).length<=100000000:=by
 unfold n9
 rw [(xw _).length_eq]
 have h1:=Ur hC ops [[]]
 have h2:400^ops.length<=400^3:=LJ (by omega) ho
 have h3:(400:Nat)^3=64000000:=by decide
 simp only [zt,Nat.one_mul] at h1
 omega
theorem cI.take {I:Nat} {gs:List Gate} (G:cI I gs) (j:Nat):cI I (gs.take j):=cI.left (hs:=gs.drop j) (by rw [List.take_append_drop];exact G)
theorem To {A:Type} {l:List A} {j:Nat} {x:A} (h:l[j]?=some x):l.take (j+1)=l.take j++[x]:=by rw [ju,h];rfl
theorem afq {n:Net} (G:cI n.ins.length n.cg) {j:Nat} (hj:j < n.cg.length) {s:dV} (hs:iS n.ins.length (n.cg.take j)=some s):CK n s (2+n.ins.length+j) (iS n.ins.length (n.cg.take (j+1))):=by
 have ON:=G.o9
 have Gt:=G.take j
 have jf:=EL _ rfl Gt hs
 have Qb:(n.cg.take j).length=j:=by rw [jv];omega
 have Ah:∀x∈s.labels,0<=x/\x<=1000000:=λx hx=>by
  have h1:=Vl _ Qb hs x hx
  have h2:=jf.pos x hx
  omega
 have kC:=jf.len
 have jK:=jf.CF
 have qn:=jf.o0
 rw [Qb] at kC jK qn
 have hg:∀g,n.cg[2+n.ins.length+j - 2 - n.ins.length]?=some g->n.cg[j]?=some g:=λg h=>by rw [<-h];congr 1;omega
 have fR:∀l:List Int,l.length<=4->(∀x∈l,0<=x/\x < 2+(n.ins.length:Int)+j)->kN s.labels l:=λl h1 h2=>⟨by omega,λv hv=>by have:=h2 v hv;rw [kC];omega,Ah⟩
 refine ⟨by omega,kC,jK,qn,by omega,by omega,λh=>by omega,λg _ h=>?_,λg _ h _=>?_,λg _ h h7=>?_⟩
 ·rw [To (hg g h),HZ,hs];rfl
 ·have ho:=zz g
  exact fR _ (by omega) (G.ops (hg g h))
 ·have F6:=hg g h
  have ho:=zz g
  have ff:=G.ops F6
  have G1:cI n.ins.length (n.cg.take j++[g]):=by rw [<-To F6];exact G.take (j+1)
  have hM:=Mr Gt jf (m:=2+n.ins.length+j) (by rw [Qb];omega) (l:=cR g) (λo ho=>by have:=ff o ho;omega)
  refine ⟨⟨ho.2,λo ho=>by have:=ff o ho;rw [jK];omega,jf.gy,λc hc l hl=>?_,rfl,?_⟩,acq jf.gy ho.2,λy hy=>fR y (hM.len y hy) λx hx=>by have:=hM.lim y hy x hx;omega⟩
  ·obtain ⟨v,hv⟩:=pW hc
   exact (jf.cut v c hv).1.len l hl
  ·exact List.length_pos_iff.2 (acQ G1 jf)
theorem abW (k:Nat):j4 (k+1)=⟨(j4 k).labels++[0],(j4 k).gv++[[[2+(k:Int)]]],(j4 k).leaves++[[]]⟩:=by
 simp only [j4,dV.mk.injEq]
 refine ⟨?_,?_,?_⟩
 ·rw [<-Nat.add_assoc,List.replicate_succ']
 ·rw [L9,vS,tq];rfl
 ·rw [<-Nat.add_assoc,List.replicate_succ']
theorem aem {n:Net} (hb:n.ins.length+n.cg.length<=1000000) {k:Nat} (hk:k < n.ins.length):CK n (j4 k) (2+k) (some (j4 (k+1))):=by
 refine ⟨by omega,by simp [j4],by simp [j4];omega,by simp [j4],hb,by omega,λ_=>?_,λg h=>by omega,λg h=>by omega,λg h=>by omega⟩
 rw [abW,Int.natCast_add];rfl
def lP (I:Nat) (gs:List Gate) (k:Nat):Option dV:=if k<=I then some (j4 k) else iS I (gs.take (k - I))
theorem VY (I:Nat) (gs:List Gate):lP I gs 0=some (j4 0):=by unfold lP;rw [if_pos (cP _)]
theorem Nd {I:Nat} {gs:List Gate} {j:Nat}:lP I gs (I+j)=iS I (gs.take j):=by
 unfold lP
 split
 ·have:j=0:=by omega
  subst this;rfl
 ·rw [LB]
theorem aen {I:Nat} {gs:List Gate} {k:Nat} (h:I+gs.length<=k):lP I gs k=iS I gs:=by
 obtain ⟨j,rfl⟩:∃j,k=I+j:=⟨k - I,by omega⟩
 rw [Nd,jt (by omega)]
theorem Tp {I:Nat}:∀(hs gs:List Gate),iS I gs=none->iS I (gs++hs)=none
 | [],gs,h=>by simpa using h
 | g :: hs,gs,h=>by
  rw [show gs++g :: hs=(gs++[g])++hs by simp]
  exact Tp hs _ (by rw [HZ,h];rfl)
theorem ac5 {I:Nat} {gs:List Gate} {k:Nat} (h:lP I gs k=none):iS I gs=none:=by
 unfold lP at h
 split at h
 ·cases h
 ·have:=Tp (gs.drop (k - I)) _ h
  rwa [List.take_append_drop] at this
theorem ah0 {n:Net} (G:cI n.ins.length n.cg) {k:Nat} (hk:k < n.ins.length+n.cg.length) {s:dV} (hs:lP n.ins.length n.cg k=some s):CK n s (2+k) (lP n.ins.length n.cg (k+1)):=by
 have hb:=G.o9
 by_cases hi:k < n.ins.length
 ·unfold lP at hs ⊢
  rw [if_pos (by omega)] at hs ⊢
  cases hs
  exact aem (by omega) hi
 ·obtain ⟨j,rfl⟩:∃j,k=n.ins.length+j:=⟨k - n.ins.length,by omega⟩
  rw [Nd] at hs
  rw [Nat.add_assoc n.ins.length,Nd,<-Nat.add_assoc 2]
  exact afq G (by omega) hs
structure W7 where
 n:Net
 out:Option dV
@[reducible] noncomputable def OO:Vc.Spec where
 α:=W7
 args x:=[.agg [.sl 3 jZ (λ_=>x.n.ins),.sl 5 mM (λ_=>x.n.cg),.sl 3 jZ (λ_=>x.n.outs),.sl 1 bK (λ_=>x.n.bf)]]
 pre x:=cI x.n.ins.length x.n.cg/\iS x.n.ins.length x.n.cg=x.out
 res x:=match x.out with
  | some s=>.ca [.dg (Jy x.n s) 0,.ic .i64 0]
  | none=>.ca [.cell,.ic .i64 2]
noncomputable def ajB (n m:Nat):Ctx:=cT n m [] [] [] [] [] [89,32] [32]
theorem VZ (n m:Nat):CB PP (ajB n m):=cW n m trivial trivial
noncomputable def ajC (n m:Nat):Ctx:=cT n m [] []
theorem agm (n m:Nat):CB PP (ajC n m):=cW n m trivial trivial
noncomputable def ajD (n m:Nat):Ctx:=cT n m [(39,Try.f39)] [] [39] [] [1,2,9]
theorem V0 (n m:Nat):CB PP (ajD n m):=cW n m ⟨fo Try.func39,trivial⟩ trivial
theorem V2:dw (PP ()) 32 OO:=by
 refine fH (V0 0 0) (fo Try.func32) (λa=>⟨⟨λx=>(r6 x).1,λx=>(uD x).1,λx=>(r6 x).1,λx=>(dv x).1,trivial⟩,trivial⟩) (λa=>by rcases a with ⟨n,_|s⟩<;>first|exact ⟨trivial,trivial,trivial⟩|exact ⟨Ve n s,trivial,trivial⟩) ?_
 rintro ⟨⟨ins,gs,outs,dr⟩,out⟩ hx
 obtain ⟨G,bV⟩:cI ins.length gs/\iS ins.length gs=out:=hx
 have hb:=G.o9
 obtain ⟨N,hN⟩:∃N,ins.length+gs.length=N:=⟨_,rfl⟩
 have hw:IntKind.i64.wrap ((ins.length:Int)+(gs.length:Int))=(N:Int):=by rw [eP (by omega) (by omega)];omega
 obtain ⟨Sf,qu⟩:∃Sf:Nat->dV,∀k,Sf k=(lP ins.length gs k).getD ⟨[],[],[]⟩:=⟨_,λ_=>rfl⟩
 have Kq:lP ins.length gs 0=some (Sf 0):=by rw [qu,VY];rfl
 have JC:Sf 0=j4 0:=by rw [qu,VY];rfl
 have z1:[0,0]=(Sf 0).labels:=by rw [JC];rfl
 have z2:[[[]],[[]]]=(Sf 0).gv:=by rw [JC];rfl
 have z3:List.replicate (2:Int).toNat ([]:List Int)=(Sf 0).leaves:=by rw [JC];rfl
 have hSs:∀k s',lP ins.length gs k=some s'->Sf k=s':=λk s' h=>by rw [qu,h];rfl
 have fB:∀k,k < N->lP ins.length gs k=some (Sf k)->CK ⟨ins,gs,outs,dr⟩ (Sf k) (2+k) (lP ins.length gs (k+1)):=λk hk h=>ah0 (n:=⟨ins,gs,outs,dr⟩) G (by show k < ins.length+gs.length;omega) h
 have di:∀k,lP ins.length gs k=none->out=none:=λk h=>by rw [<-bV];exact ac5 h
 have nA:∀k,N<=k->lP ins.length gs k=some (Sf k)->out=some (Sf k):=λk hk h=>by rw [<-bV,<-aen (by omega:ins.length+gs.length<=k)];exact h
 have hNb:N<=600:=by omega
 clear qu JC
 refine ⟨?_⟩
 cbv
 refine Sat.jN (VZ 0 0) ?_
 cbv
 refine Sat.jN (VZ 0 0) ?_
 cbv
 refine ⟨[0,0],⟨by exact aY,rfl⟩,?_⟩
 cbv
 refine ⟨[[[]],[[]]],⟨by exact aY,rfl⟩,?_⟩
 cbv
 refine ⟨⟨by decide,by decide,by decide,by decide⟩,?_⟩
 refine Sat.eI (V0 0 0) 7 6 [(.c 6 4,3),(.c 6 5,4),(.c 6 6,5)] (λk:Nat=>[(23,.i .i64 (λ_=>(N:Int))),(24,.i .i64 (λ_=>(k:Int)))]) (λk=>[(3,.dyn 3 1 bK (λ_=>(Sf k).labels)),(4,.dyn 39 1 zT (λ_=>(Sf k).gv)),(5,.dyn 32 1 fP (λ_=>(Sf k).leaves))]) (λk=>k<=N/\lP ins.length gs k=some (Sf k)) (λk=>N - k) 0 (by have bI:=hw;exact bp) (by have eu:=z1;have pI:=z2;have vp:=z3;exact bp) ⟨cP _,Kq⟩ ?_
 intro k hk
 obtain ⟨hk,De⟩:k<=N/\lP ins.length gs k=some (Sf k):=hk
 have kR:=eU (i:=k) (by omega)
 have hv:IntKind.i64.wrap (2+(k:Int))=((2+k:Nat):Int):=by rw [eP (by omega) (by omega)];omega
 cbv
 refine ⟨λh=>?_,λh=>?_⟩
 rotate_left
 ·have cf:N<=k:=aJ
  obtain rfl:=nA k cf De
  cbv
  refine Sat.freeze 3 rfl rfl ?_
  refine Sat.freeze 4 rfl rfl ?_
  refine Sat.freeze 5 rfl rfl ?_
  refine Sat.freeze 6 rfl rfl ?_
  refine Sat.jN (agm 0 0) ?_
  cbv
  exact ⟨by exact aY⟩
 have hkN:k < N:=aJ
 have yF:=fB k hkN De
 obtain ⟨V,hV⟩:∃V,2+k=V:=⟨_,rfl⟩
 rw [hV] at yF hv
 have cD:N - (k+1) < N - k:=by omega
 clear h
 rcases hO:lP ins.length gs (k+1) with _|s'
 ·rw [hO] at yF
  obtain rfl:=di (k+1) hO
  cbv
  refine iP.ue W6 (λa y=>trivial) ⟨⟨ins,gs,outs,dr⟩,Sf k,V,none⟩ [6,3,4,5] rfl (by have bI:=hv;exact bN) (by exact aX) ⟨yF⟩ λ_ _=>?_
  cbv
  refine ⟨λh=>?_,λh=>?_⟩
  ·cbv
   exact ⟨by ((try cbv)<;>((repeat' first|exact cM.nil|exact Le.refl _|refine cM.cons ?_ ?_|exact Le.ic rfl|exact Le.bc rfl|exact Le.i rfl|exact Le.b rfl|exact Le.sl rfl|exact Le.mp rfl|exact Le.fA rfl|exact Le.oq rfl|refine Le.cH rfl (λ_=>?_)|refine Le.dO rfl (λ_ _=>rfl) (λ_=>?_) ?_|refine Le.agg ?_|refine Le.ca ?_|refine Le.fn ?_ ?_|refine Le.dg ?_|exact trivial|refine And.intro ?_ ?_|refine λ_=>?_|exact Le.any _)))<;>exact .cell rfl⟩
  ·have h':(!(none:Option dV).isSome)=false:=h.out
   cases h'
 ·rw [hO] at yF
  have e:=hSs (k+1) s' hO
  have e1:((some s').getD (Sf k)).labels=(Sf (k+1)).labels:=by rw [e];rfl
  have e2:((some s').getD (Sf k)).gv=(Sf (k+1)).gv:=by rw [e];rfl
  have e3:((some s').getD (Sf k)).leaves=(Sf (k+1)).leaves:=by rw [e];rfl
  have gn:(k+1<=N/\lP ins.length gs (k+1)=some (Sf (k+1)))/\N - (k+1) < N - k:=⟨⟨hkN,by rw [e];exact hO⟩,cD⟩
  cbv
  refine iP.ue W6 (λa y=>trivial) ⟨⟨ins,gs,outs,dr⟩,Sf k,V,some s'⟩ [6,3,4,5] rfl (by have bI:=hv;exact bN) (by exact aX) ⟨yF⟩ λ_ _=>?_
  cbv
  refine ⟨λh=>?_,λh=>?_⟩
  ·have h':(!(some s').isSome)=true:=h.out
   cases h'
  cbv
  exact ⟨k+1,by have bI:=kR;exact bp,by have eu:=e1;have pI:=e2;have vp:=e3;exact bp,⟨gn⟩⟩
@[reducible] noncomputable def X6:Vc.Spec where
 α:=W7
 args x:=[.agg [.sl 3 jZ (λ_=>x.n.ins),.sl 5 mM (λ_=>x.n.cg),.sl 3 jZ (λ_=>x.n.outs),.sl 1 bK (λ_=>x.n.bf)]]
 pre x:=cI x.n.ins.length x.n.cg/\iS x.n.ins.length x.n.cg=x.out
 res x:=match x.out with
  | some s=>.ca [.sl 1 bK (λ_=>s.labels),.ic .i64 0]
  | none=>.ca [.cH,.ic .i64 2]
noncomputable def ajE (n m:Nat):Ctx:=cT n m [] [(32,OO)]
theorem agn (n m:Nat):CB PP (ajE n m):=cW n m trivial ⟨V2,trivial⟩
theorem ago:dw (PP ()) 31 X6:=by
 refine fH (agn 0 0) (fo Try.func31) (λa=>⟨⟨λx=>(r6 x).1,λx=>(uD x).1,λx=>(r6 x).1,λx=>(dv x).1,trivial⟩,trivial⟩) (λa=>by rcases a with ⟨n,_|s⟩<;>first|exact ⟨trivial,trivial,trivial⟩|exact ⟨λx=>(dv x).1,trivial,trivial⟩) ?_
 rintro ⟨⟨ins,gs,outs,dr⟩,_|s⟩ hx
 ·have hx:cI ins.length gs/\iS ins.length gs=none:=hx
  refine ⟨?_⟩
  cbv
  refine ⟨⟨⟨ins,gs,outs,dr⟩,none⟩,⟨by exact aY,hx⟩,?_⟩
  cbv
  exact ⟨by exact aY⟩
 ·have hx:cI ins.length gs/\iS ins.length gs=some s:=hx
  refine ⟨?_⟩
  cbv
  refine ⟨⟨⟨ins,gs,outs,dr⟩,some s⟩,⟨by exact aY,hx⟩,?_⟩
  cbv
  exact ⟨by exact aY⟩
def yA (k:Nat) (v:Int):Option Int:=if 0<=v/\v < k then some v else none
theorem agp:(λ_=>none)=yA 0:=by funext v;unfold yA;rw [if_neg (by omega)]
theorem ac6 (k:Nat):(λj=>if j=(k:Int) then some (k:Int) else yA k j)=yA (k+1):=by
 funext j
 unfold yA
 by_cases h:j=k
 ·rw [if_pos h,if_pos (by omega),h]
 ·rw [if_neg h]
  by_cases h2:0<=j/\j < k
  ·rw [if_pos h2,if_pos (by omega)]
  ·rw [if_neg h2,if_neg (by omega)]
theorem aeo (I:Nat) (roots:List Int):yA (2+I)=eO I (roots.take 0):=by
 funext v
 unfold yA eO
 by_cases h:0<=v/\v < 2+(I:Int)
 ·rw [if_pos (by omega),if_pos h]
 ·rw [if_neg (by omega),if_neg h];rfl
theorem ac7 {I:Nat} {roots:List Int} {i:Nat} {r:Int} (hr:roots[i]?=some r) (hn:roots.Nodup) (gg:2+(I:Int)<=r):(λj=>if j=r then some (2+(I:Int)+i) else eO I (roots.take i) j)=eO I (roots.take (i+1)):=by
 obtain ⟨aP,Dj⟩:=bh.1 hr
 have hlen:(roots.take i).length=i:=by rw [jv];omega
 have ajF:r∉roots.take i:=λhm=>by
  obtain ⟨j,hj⟩:=pW hm
  rw [kE] at hj
  split at hj
  ·obtain ⟨e8,sJ⟩:=bh.1 hj
   exact qO.1 hn j i e8 aP (by assumption) (by rw [sJ,Dj])
  ·cases hj
 funext j
 unfold eO
 rw [ju,hr,nX,List.findIdx?_append]
 by_cases h:j=r
 ·subst h
  have di:List.findIdx? (λx=>decide (x=j)) (roots.take i)=none:=BL.2 λx hx=>decide_eq_false λe=>ajF (by rw [<-e];exact hx)
  rw [if_pos rfl,if_neg (by omega),di]
  simp [List.findIdx?_cons,hlen]
 ·rw [if_neg h]
  split
  ·rfl
  ·have e:List.findIdx? (λx=>decide (x=j)) [r]=none:=by
    have:¬r=j:=λe=>h e.symm
    simp [List.findIdx?_cons,this]
   rw [e]
   cases List.findIdx? (λx=>decide (x=j)) (roots.take i)<;>rfl
structure ajG where
 n:Net
 roots:List Int
structure Cl (I:Nat) (roots:List Int):Prop where
 len:roots.length<=1000000
 nd:roots.Nodup
 lo:∀r∈roots,2+(I:Int)<=r
@[reducible] noncomputable def JD:Vc.Spec where
 α:=ajG
 args x:=[.agg [.sl 3 jZ (λ_=>x.n.ins),.sl 5 mM (λ_=>x.n.cg),.sl 3 jZ (λ_=>x.n.outs),.sl 1 bK (λ_=>x.n.bf)],.sl 1 bK (λ_=>x.roots)]
 pre x:=x.n.ins.length<=1000000/\Cl x.n.ins.length x.roots
 res x:=.mp (.int .i64) bK (λ_=>eO x.n.ins.length x.roots)
noncomputable def ajH (n m:Nat):Ctx:=cT n m [] []
theorem NB (n m:Nat):CB PP (ajH n m):=cW n m trivial trivial
theorem NC:dw (PP ()) 20 JD:=by
 refine fH (NB 0 0) (fo Try.func20) (λa=>⟨⟨λx=>(r6 x).1,λx=>(uD x).1,λx=>(r6 x).1,λx=>(dv x).1,trivial⟩,λx=>(dv x).1,trivial⟩) (λa=>λx=>(dv x).1) ?_
 rintro ⟨⟨ins,gs,outs,dr⟩,R⟩ hx
 obtain ⟨hI,wY,AX,tZ⟩:ins.length<=1000000/\Cl ins.length R:=hx
 obtain ⟨Af,wX⟩:∃Af:Nat->Int->Option Int,∀k,Af k=yA k:=⟨_,λ_=>rfl⟩
 obtain ⟨Sf,qu⟩:∃Sf:Nat->Int->Option Int,∀i,Sf i=eO ins.length (R.take i):=⟨_,λ_=>rfl⟩
 have yN:(λ_=>none)=Af 0:=by rw [wX];exact agp
 have P9:∀k:Nat,(λj=>if j=(k:Int) then some (k:Int) else Af k j)=Af (k+1):=λk=>by rw [wX,wX];exact ac6 k
 have hAS:Af (2+ins.length)=Sf 0:=by rw [wX,qu];exact aeo _ _
 have yT:∀(i:Nat) (r:Int),R[i]?=some r->(λj=>if j=r then some (2+(ins.length:Int)+i) else Sf i j)=Sf (i+1):=λi r hr=>by rw [qu,qu];exact ac7 hr AX (tZ r (cN hr))
 have nA:∀i:Nat,R.length<=i->Sf i=eO ins.length R:=λi hi=>by rw [qu,jt hi]
 obtain ⟨T,hT⟩:∃T,2+ins.length=T:=⟨_,rfl⟩
 have hw:IntKind.i64.wrap (2+(ins.length:Int))=(T:Int):=by rw [eP (by omega) (by omega)];omega
 have Dl:∀i:Nat,i<=1000000->IntKind.i64.wrap (IntKind.i64.wrap (2+(ins.length:Int))+(i:Int))=2+(ins.length:Int)+i:=λi hi=>by rw [hw,eP (by omega) (by omega)];omega
 rw [hT] at hAS
 refine ⟨?_⟩
 cbv
 refine Sat.eI (NB 0 0) 2 6 [] (λk:Nat=>[(13,.i .i64 (λ_=>(T:Int))),(14,.i .i64 (λ_=>(k:Int)))]) (λk=>[(1,.map (.int .i64) bK (λ_=>Af k))]) (λk=>k<=T) (λk=>T - k) 0 (by have bI:=hw;exact bp) (by have ru:=yN;exact bp) (cP _) ?_
 intro k hk
 have hk:k<=T:=hk
 have kR:=eU (i:=k) (by omega)
 have qs:=P9 k
 cbv
 refine ⟨λh=>?_,λh=>?_⟩
 ·have Qc:k < T:=aJ
  have cD:T - (k+1) < T - k:=by omega
  clear h
  cbv
  refine ⟨(k:Int),⟨by exact aY⟩,?_⟩
  cbv
  exact ⟨k+1,by have bI:=kR;exact bp,by have ru:=qs;exact bp,⟨⟨Qc,cD⟩⟩⟩
 have cf:T<=k:=aJ
 have Qc:k=T:=by omega
 subst Qc
 clear h
 cbv
 refine Sat.eI (NB 0 0) 2 6 [] (λi:Nat=>[(21,.sl 1 bK (λ_=>R)),(22,.i .i64 (λ_=>(R.length:Int))),(23,.i .i64 (λ_=>(i:Int)))]) (λi=>[(1,.map (.int .i64) bK (λ_=>Sf i))]) (λi=>i<=R.length) (λi=>R.length - i) 0 (by exact aX) (by have ru:=hAS;exact bp) (cP _) ?_
 intro i hi
 have hi:i<=R.length:=hi
 have dY:=n0 i
 have gH:=eU (i:=i) (by omega)
 have hx:=Dl i (by omega)
 have tR:=yT i
 obtain ⟨X,hX⟩:∃X,2+(ins.length:Int)+i=X:=⟨_,rfl⟩
 rw [hX] at hx tR
 cbv
 refine ⟨λh=>?_,λh=>?_⟩
 ·have bU:i < R.length:=aJ
  have cD:R.length - (i+1) < R.length - i:=by omega
  refine (cy bU).elim λr hr=>?_
  have AY:=tR r hr
  clear h
  cbv
  refine ⟨r,⟨dY,hr⟩,?_⟩
  cbv
  refine ⟨X,⟨by have bI:=hx;exact bN⟩,?_⟩
  cbv
  exact ⟨i+1,by have bI:=gH;exact bp,by have ru:=AY;exact bp,⟨⟨bU,cD⟩⟩⟩
 ·have cf:R.length<=i:=aJ
  have hf:=nA i cf
  cbv
  exact ⟨by have Gg:=hf;exact bN⟩
structure ah1 where
 n:Net
 S:List Int
 st:mh
 v:Int
structure ViR where
 res:Bool
 st:mh
abbrev FI:Unit->List SV:=λ_=>[.bc true]
def X7 (n:Net) (S:List Int) (st:mh):List Slot:=[.fix 32 [.sl 1 bK (λ_=>S)],.fix 107 [.fy 2],.map (.int .i64) FI (λ_=>st.rch),.fix 107 [.fy 4],.map (.int .i64) FI (λ_=>st.ins),.fix 34 (px n),.fix 80 [.fn (.func 50) [] [.ptr 0 0,.ptr 1 0,.ptr 3 0,.ptr 5 0,.ptr 6 0]]]
structure JE (n:Net) (S:List Int) (v:Int):Prop where
 G:cI n.ins.length n.cg
 S:S.length<=1000000
 v0:0<=v
 v1:v < 2+n.ins.length+n.cg.length
@[reducible] noncomputable def Qd (k:Nat):oj where
 α:=ah1
 args x:=[.i .i64 (λ_=>x.v),.ptr 0 0,.ptr 1 0,.ptr 3 0,.ptr 5 0,.ptr 6 0]
 io x:=X7 x.n x.S x.st
 pre x:=JE x.n x.S x.v/\x.v.toNat<=k
 β:=ViR
 post x y:=mH x.n.ins.length x.n.cg x.S x.st x.v y.res y.st
 mv:=[]
 res x y:=.b (λ_=>y.res)
 lz x y:=X7 x.n x.S y.st
theorem ac8 {n:Net} {v:Int} {g:Gate} (h:qf n v=(g,true)):gJ n.ins.length n.cg v.toNat=some g/\g.op≠7:=by
 unfold qf at h
 cases hg:gJ n.ins.length n.cg v.toNat with
 | none=>rw [hg] at h;cases h
 | some g' =>
  rw [hg] at h
  simp only at h
  split at h
  ·cases h
  ·cases h;exact ⟨rfl,by assumption⟩
theorem aep {n:Net} {v:Int} {g:Gate} (h:qf n v=(g,false)):∀g',gJ n.ins.length n.cg v.toNat=some g'->g'.op=7:=λg' hg=>by
 unfold qf at h
 rw [hg] at h
 simp only at h
 split at h
 ·assumption
 ·cases h
noncomputable def cVi (n m:Nat):Ctx:=cT n m [(50,Try.f50)] [(51,I5),(43,OG),(52,XT)] [50]
theorem W8 (n m:Nat):CB PP (cVi n m):=cW n m ⟨fo Try.func50,trivial⟩ ⟨Nc,VN,af3,trivial⟩
theorem Vm (k:Nat) (ih:∀m,m+1=k->ma PP 50 (Qd m)):ma PP 50 (Qd k):=by
 refine rp (W8 0 0) (fo Try.func50) (λa y=>rfl) (λa=>⟨rfl,rfl⟩) .nil ?_
 rintro ⟨⟨ins,gs,outs,dr⟩,S,⟨Is,Rs⟩,v⟩ hx
 obtain ⟨⟨G,hS,kD,rz⟩,hvk⟩:JE ⟨ins,gs,outs,dr⟩ S v/\v.toNat<=k:=hx
 have G:cI ins.length gs:=G
 have hS:S.length<=1000000:=hS
 have rz:v < 2+(ins.length:Int)+gs.length:=rz
 have hb:=G.o9
 have vj:S.length<=1000000000000:=by omega
 obtain ⟨g,b,wW⟩:∃g b,qf ⟨ins,gs,outs,dr⟩ v=(g,b):=⟨_,_,rfl⟩
 have tV:ins.length<=1000/\gs.length<=1000/\0<=v/\v < wa ⟨ins,gs,outs,dr⟩/\qf ⟨ins,gs,outs,dr⟩ v=(g,b):=⟨by omega,by omega,kD,rz,wW⟩
 obtain ⟨O,hO⟩:∃O,cR g=O:=⟨_,rfl⟩
 have hOl:O.length<=3:=by rw [<-hO];exact (zz g).2
 have X8:(λj=>if j=v then some () else Rs j)=(mh.mk Is (yz Rs v)).rch:=rfl
 have X9:(λj=>if j=v then some () else Is j)=(mh.mk (yz Is v) Rs).ins:=rfl
 obtain ⟨Ra,hRa⟩:∃Ra,yz Rs v=Ra:=⟨_,rfl⟩
 obtain ⟨Ia,hIa⟩:∃Ia,yz Is v=Ia:=⟨_,rfl⟩
 have X8:(λj=>if j=v then some () else Rs j)=Ra:=hRa
 have X9:(λj=>if j=v then some () else Is j)=Ia:=hIa
 refine ⟨?_⟩
 cbv
 refine ⟨⟨S,v⟩,⟨by exact aY,vj⟩,?_⟩
 cbv
 refine ⟨λh=>?_,λh=>?_⟩
 ·have hm:v∈S:=by have h':S.contains v=true:=h.out;simpa using h'
  have bV:mH ins.length gs S ⟨Is,Rs⟩ v true ⟨Is,Ra⟩:=hRa ▸ mH.leaf kD hm
  cbv
  refine ⟨(),⟨by exact aY⟩,?_⟩
  cbv
  exact ⟨⟨true,⟨Is,Ra⟩⟩,[],[],⟨by exact fj,trivial⟩,by have ru:=X8;exact bp,⟨bV⟩⟩
 have hm:v∉S:=by have h':S.contains v=false:=h.out;simpa using h'
 clear h
 cbv
 refine ⟨λh=>?_,λh=>?_⟩
 ·have aP:v < 2:=aJ
  have bV:mH ins.length gs S ⟨Is,Rs⟩ v true ⟨Is,Rs⟩:=.known hm (.inl aP)
  cbv
  exact ⟨⟨true,⟨Is,Rs⟩⟩,[],[],⟨by exact fj,trivial⟩,by exact aX,⟨bV⟩⟩
 have cf:2<=v:=aJ
 clear h
 cbv
 refine ⟨none,⟨rfl,λ_=>rfl⟩,?_⟩
 cbv
 refine ⟨λh=>?_,λh=>?_⟩
 ·have dq:(Is v).isSome=true:=h.out
  have bV:mH ins.length gs S ⟨Is,Rs⟩ v true ⟨Is,Rs⟩:=.known hm (.inr dq)
  cbv
  exact ⟨⟨true,⟨Is,Rs⟩⟩,[],[],⟨by exact fj,trivial⟩,by exact aX,⟨bV⟩⟩
 clear h
 cbv
 refine ⟨⟨⟨ins,gs,outs,dr⟩,v,g,b⟩,⟨by exact aY,tV⟩,?_⟩
 cbv
 refine ⟨λh=>?_,λh=>?_⟩
 ·have Qe:b=false:=by have h':(!b)=true:=h.out;simpa using h'
  subst Qe
  have bV:mH ins.length gs S ⟨Is,Rs⟩ v false ⟨Is,Rs⟩:=.bad cf hm (aep wW)
  cbv
  exact ⟨⟨false,⟨Is,Rs⟩⟩,[],[],⟨by exact fj,trivial⟩,by exact aX,⟨bV⟩⟩
 have rA:b=true:=by have h':(!b)=false:=h.out;simpa using h'
 subst rA
 obtain ⟨hg,h7⟩:=ac8 wW
 have hg:gJ ins.length gs v.toNat=some g:=hg
 have yU:q8 ins.length gs S ⟨Is,Rs⟩ v O 0 ⟨Ia,Rs⟩:=hIa ▸ q8.start cf hm O
 have Dm:((v.toNat:Nat):Int)∉S:=by rw [Int.toNat_of_nonneg kD];exact hm
 have Dd:∀x∈O,x∈sQ ins.length gs S v.toNat:=λx hx=>qU.2 ⟨Dm,g,hg,h7,by rw [hO];exact hx⟩
 have nL:∀x∈O,0<=x/\x < v:=λx hx=>by have:=EV G (Dd x hx);omega
 refine (⟨k - 1,by omega⟩:∃m,m+1=k).elim λm qt=>?_
 have ih:=ih m qt
 clear h
 cbv
 refine ⟨(),⟨by exact aY⟩,?_⟩
 cbv
 refine ⟨⟨g,O⟩,⟨by exact aY,hO⟩,?_⟩
 cbv
 refine Sat.eI (W8 0 0) 8 6 [] (λy:Nat × mh=>[(37,.sl 1 bK (λ_=>O)),(38,.i .i64 (λ_=>(O.length:Int))),(39,.i .i64 (λ_=>(y.1:Int)))]) (λy=>[(2,.map (.int .i64) FI (λ_=>y.2.rch)),(4,.map (.int .i64) FI (λ_=>y.2.ins))]) (λy=>q8 ins.length gs S ⟨Is,Rs⟩ v O y.1 y.2) (λy=>O.length - y.1) (0,⟨Ia,Rs⟩) (by exact aX) (by have ru:=X9;exact bp) yU ?_
 rintro ⟨j,⟨I2,R2⟩⟩ hJ
 have hJ:q8 ins.length gs S ⟨Is,Rs⟩ v O j ⟨I2,R2⟩:=hJ
 have e8:=hJ.le
 have mi:=n0 j
 have pb:=eU (i:=j) (by omega)
 cbv
 refine ⟨λh=>?_,λh=>?_⟩
 rotate_left
 ·have JF:O.length<=j:=aJ
  have bV:=hJ.fin JF hm hg h7 hO.symm
  cbv
  exact ⟨⟨true,⟨I2,R2⟩⟩,[],[],⟨by exact fj,trivial⟩,by exact aX,⟨bV⟩⟩
 have FJ:j < O.length:=aJ
 have cD:O.length - (j+1) < O.length - j:=by omega
 refine (cy FJ).elim λx hx=>?_
 have Gq:=cN hx
 have lT:=nL x Gq
 have dU:JE ⟨ins,gs,outs,dr⟩ S x/\x.toNat<=m:=⟨⟨G,hS,lT.1,Int.lt_trans lT.2 rz⟩,by have:=lT.1;have:=lT.2;omega⟩
 have Kt:=Dd x Gq
 clear h
 cbv
 refine ⟨x,⟨mi,hx⟩,?_⟩
 cbv
 refine iP.ue ih (λa y=>trivial) ⟨⟨ins,gs,outs,dr⟩,S,⟨I2,R2⟩,x⟩ [0,1,2,3,4,5,6] rfl (by exact aY) (by exact aX) ⟨dU⟩ λy hy=>?_
 obtain ⟨res,⟨I3,R3⟩⟩:=y
 have hy:mH ins.length gs S ⟨I2,R2⟩ x res ⟨I3,R3⟩:=hy.out
 cbv
 refine ⟨λh=>?_,λh=>?_⟩
 ·have hr:res=false:=by have h':(!res)=true:=h.out;simpa using h'
  subst hr
  have bV:=hJ.fail Kt hy
  cbv
  exact ⟨⟨false,⟨I3,R3⟩⟩,[],[],⟨by exact fj,trivial⟩,by exact aX,⟨bV⟩⟩
 ·have hr:res=true:=by have h':(!res)=false:=h.out;simpa using h'
  subst hr
  have b9:=hJ.step hx Kt hy
  cbv
  exact ⟨(j+1,⟨I3,R3⟩),by have bI:=pb;exact bp,by exact aX,⟨⟨b9,cD⟩⟩⟩
theorem W9:∀k,ma PP 50 (Qd k)
 | 0=>Vm 0 λm h=>by omega
 | k+1=>Vm (k+1) λm h=>by
  cases Nat.succ.inj h
  exact W9 k
structure sD (root:Int) (S:List Int) (i:Nat):Prop where
 le:i<=S.length
 mem:∀x∈S.take i,2<=x/\x<=root
 inc:fX (S.take i)
theorem sD.start (root:Int) (S:List Int):sD root S 0:=⟨cP _,by simp,by simp⟩
theorem sD.step {root:Int} {S:List Int} {i:Nat} {x:Int} (h:sD root S i) (hx:S[i]?=some x) (h1:2<=x) (h2:x<=root) (h3:∀p,0 < i->S[i - 1]?=some p->p < x):sD root S (i+1):=by
 refine ⟨(bh.1 hx).1,λy hy=>?_,?_⟩
 ·rw [ju,hx] at hy
  rcases eE.1 hy with hy|hy
  ·exact h.mem y hy
  ·simp at hy;subst hy;exact ⟨h1,h2⟩
 ·rw [ju,hx,nX]
  refine kq.2 ⟨h.inc,by simp,λy hy z hz=>?_⟩
  simp at hz;subst hz
  have hi:0 < i:=by
   rcases zu i with rfl|hi
   ·simp at hy
   ·exact hi
  have aP:=(bh.1 hx).1
  obtain ⟨p,hp⟩:∃p,S[i - 1]?=some p:=⟨_,dE (by omega)⟩
  have J3:=h3 p hi hp
  have kM:=h.inc
  rw [show i=(i - 1)+1 by omega,ju,hp,nX] at kM hy
  rcases eE.1 hy with hy|hy
  ·have:=(kq.1 kM).2.2 y hy p (by simp);omega
  ·simp at hy;omega
theorem sD.fin {N root:Int} {S:List Int} {i:Nat} (h:sD root S i) (hi:S.length<=i) (h1:2<=root) (h2:root < N) (h3:S.length<=4):qb N root S=true:=by
 have e:S.take i=S:=jt hi
 have a:=h.mem
 have b:=h.inc
 rw [e] at a b
 exact zh.2 ⟨h1,h2,h3,a,b⟩
theorem EF {N root:Int} {S:List Int} (h:¬EW N root S):qb N root S=false:=by
 cases hb:qb N root S with
 | false=>rfl
 | true=>exact absurd (zh.1 hb) h
theorem Vn {N root:Int} {S:List Int} {i:Nat} {x:Int} (hx:S[i]?=some x) (h:x < 2\/root < x):qb N root S=false:=EF λL=>by
 have:=L.mem x (cN hx);omega
theorem afr {N root:Int} {S:List Int} {i:Nat} {x p:Int} (hi:0 < i) (hx:S[i]?=some x) (hp:S[i - 1]?=some p) (h:x<=p):qb N root S=false:=EF λL=>by
 obtain ⟨h1,e1⟩:=bh.1 hx
 obtain ⟨h2,e2⟩:=bh.1 hp
 have:=qO.1 L.inc (i - 1) i h2 h1 (by omega)
 omega
theorem afs {l m:List Int} (hm:fX m) (hn:l.Nodup) (h:∀u,u∈l↔u∈m):ql l=m:=by
 have hp:(ql l).Perm l:=List.mergeSort_perm l _
 have hs:(ql l).Pairwise (·<=·):=by
  have:=SL (le:=λx y:Int=>decide (x<=y)) (λa b c h1 h2=>by simp only [decide_eq_true_eq] at *;omega) (λa b=>by simp only [oO,decide_eq_true_eq];omega) l
  unfold ql
  simpa using this
 have fB:(ql l).Nodup:=hp.nodup_iff.2 hn
 have hi:fX (ql l):=(LI.2 ⟨hs,fB⟩).imp λ⟨a,b⟩=>by omega
 exact hi.ext hm λu=>hp.mem_iff.trans (h u)
structure agq (S:List Int) (rch:Int->Option Unit) (ks:List Int):Prop where
 nd:ks.Nodup
 mem:∀n,n∈ks↔(rch n).isSome=true
theorem agr {S:List Int} {rch:Int->Option Unit} (hS:S.Nodup) (h:∀u,(rch u).isSome=true->u∈S):agq S rch (S.filter λx=>(rch x).isSome) :=
 ⟨hS.filter _,λn=>by rw [lD];exact ⟨λa=>a.2,λa=>⟨h n a,a⟩⟩⟩
theorem filter_lt {A:Type} {f:A->Bool}:∀{l:List A},(l.filter f).length < l.length->∃x∈l,f x=false
 | [],h=>by simp at h
 | x :: l,h=>by
  cases hf:f x with
  | false=>exact ⟨x,by simp,hf⟩
  | true =>
   rw [LD hf,oN,oN] at h
   obtain ⟨y,hy,e⟩:=filter_lt (Nat.lt_of_succ_lt_succ h)
   exact ⟨y,by simp [hy],e⟩
theorem ac9 {A:Type} {f:A->Bool} {l:List A} (h:l.length<=(l.filter f).length):∀x∈l,f x=true:=by
 have:=List.Sublist.eq_of_length_le (List.filter_sublist (p:=f) (l:=l)) h
 intro x hx
 rw [<-this] at hx
 exact (lD.1 hx).2
structure ajI where
 n:Net
 root:Int
 S:List Int
 out:Option (List Int)
structure JG (n:Net) (root:Int) (S:List Int) (out:Option (List Int)):Prop where
 G:cI n.ins.length n.cg
 gy:S.length<=1000000
 eq:iE n.ins.length n.cg root S=out
@[reducible] noncomputable def Ya:Vc.Spec where
 α:=ajI
 args x:=[.agg (px x.n),.i .i64 (λ_=>x.root),.sl 1 bK (λ_=>x.S)]
 pre x:=JG x.n x.root x.S x.out
 res x:=match x.out with
  | some l=>.ca [.sl 1 bK (λ_=>l),.bc true]
  | none=>.ca [.cH,.bc false]
noncomputable def ajJ (n m:Nat):Ctx:=cT n m [] []
theorem ags (n m:Nat):CB PP (ajJ n m):=cW n m trivial trivial
noncomputable def ajK (n m:Nat):Ctx:=cT n m [(50,Try.f50),(53,Try.f53)] [(49,XS)] [50,53] [] [15]
theorem ND (n m:Nat):CB PP (ajK n m):=cW n m ⟨fo Try.func50,fo Try.func53,trivial⟩ ⟨af2,trivial⟩
theorem agt:dw (PP ()) 41 Ya:=by
 refine fH (ND 0 0) (fo Try.func41) (λa=>⟨uH a.n,trivial,λx=>(dv x).1,trivial⟩) (λa=>by rcases a with ⟨n,r,S,_|l⟩<;>first|exact ⟨trivial,trivial,trivial⟩|exact ⟨λx=>(dv x).1,trivial,trivial⟩) ?_
 rintro ⟨⟨ins,gs,outs,dr⟩,root,S,out⟩ hx
 obtain ⟨G,hS,bV⟩:JG ⟨ins,gs,outs,dr⟩ root S out:=hx
 have G:cI ins.length gs:=G
 have bV:iE ins.length gs root S=out:=bV
 have hb:=G.o9
 have tV:ins.length<=1000/\gs.length<=1000:=by omega
 obtain ⟨N,hN⟩:∃N:Int,wa ⟨ins,gs,outs,dr⟩=N:=⟨_,rfl⟩
 have hN2:N=2+(ins.length:Int)+gs.length:=hN.symm
 have hNi:∀r:Int,r < N->r < 2+(ins.length:Int)+gs.length:=λr h=>by omega
 have hN6:∀r:Int,r < N->r < 600:=λr h=>by omega
 have hNe:∀R S,qb N R S=true->qb (2+(ins.length:Int)+gs.length) R S=true:=λR S h=>by rw [<-hN2];exact h
 have di:qb N root S=false->out=none:=λh=>by rw [hN2] at h;rw [<-bV];exact abm h
 refine ⟨?_⟩
 cbv
 refine ⟨λh=>?_,λh=>?_⟩
 ·have gg:root < 2:=aJ
  obtain rfl:=di (EF λL=>by have:=L.lo;omega)
  cbv
  exact ⟨by exact aY⟩
 have gg:2<=root:=aJ
 clear h
 cbv
 refine ⟨⟨ins,gs,outs,dr⟩,⟨by exact aY,tV⟩,?_⟩
 cbv
 refine ⟨λh=>?_,λh=>?_⟩
 ·have jL:wa ⟨ins,gs,outs,dr⟩<=root:=aJ
  obtain rfl:=di (EF λL=>by have:=L.hi;omega)
  cbv
  exact ⟨by exact aY⟩
 have jL:root < wa ⟨ins,gs,outs,dr⟩:=aJ
 have jL:root < N:=by omega
 clear h
 cbv
 refine ⟨λh=>?_,λh=>?_⟩
 ·have h4:(4:Int) < (S.length:Int):=aJ
  have h4:4 < S.length:=by exact sP
  obtain rfl:=di (EF λL=>by have:=L.len;omega)
  cbv
  exact ⟨by exact aY⟩
 have h4:(S.length:Int)<=4:=aJ
 have h4:S.length<=4:=by exact sP
 have yU:=sD.start root S
 clear h
 cbv
 refine Sat.eI (ND 0 0) 2 8 [] (λi:Nat=>[(28,.sl 1 bK (λ_=>S)),(29,.i .i64 (λ_=>(S.length:Int))),(30,.i .i64 (λ_=>(i:Int)))]) (λ_=>[]) (λi=>sD root S i) (λi=>S.length - i) 0 (by exact aX) (by exact aX) yU ?_
 intro i hJ
 have hJ:sD root S i:=hJ
 have bU:=hJ.le
 have dY:=n0 i
 have gH:=eU (i:=i) (by omega)
 cbv
 refine ⟨λh=>?_,λh=>?_⟩
 ·have yQ:i < S.length:=aJ
  have cD:S.length - (i+1) < S.length - i:=by omega
  refine (cy yQ).elim λx hx=>?_
  clear h
  cbv
  refine ⟨x,⟨dY,hx⟩,?_⟩
  cbv
  refine ⟨λh=>?_,λh=>?_⟩
  ·have oD:x < 2:=aJ
   obtain rfl:=di (Vn hx (.inl oD))
   cbv
   exact ⟨by exact aY⟩
  have oD:2<=x:=aJ
  clear h
  cbv
  refine ⟨λh=>?_,λh=>?_⟩
  ·have Ku:root < x:=aJ
   obtain rfl:=di (Vn hx (.inr Ku))
   cbv
   exact ⟨by exact aY⟩
  have Ku:x<=root:=aJ
  clear h
  cbv
  refine ⟨λh=>?_,λh=>?_⟩
  ·have Qf:(0:Int) < (i:Int):=aJ
   have Qf:0 < i:=by exact sP
   refine (cy (l:=S) (i:=i - 1) (by omega)).elim λp hp=>?_
   have Z2:IntKind.i64.wrap ((i:Int) - 1)=((i - 1:Nat):Int):=by rw [eP (by omega) (by omega)];omega
   have hpn:0<=IntKind.i64.wrap ((i:Int) - 1)/\S[(IntKind.i64.wrap ((i:Int) - 1)).toNat]?=some p:=by rw [Z2];exact ⟨n0 _,hp⟩
   clear h
   cbv
   refine ⟨p,⟨hpn⟩,?_⟩
   cbv
   refine ⟨λh=>?_,λh=>?_⟩
   ·have Qg:x<=p:=aJ
    obtain rfl:=di (afr Qf hx hp Qg)
    cbv
    exact ⟨by exact aY⟩
   ·have Qg:p < x:=aJ
    have gn:sD root S (i+1)/\S.length - (i+1) < S.length - i:=⟨hJ.step hx oD Ku λq _ hq=>by rw [hp] at hq;cases hq;exact Qg,cD⟩
    cbv
    exact ⟨i+1,by have bI:=gH;exact bp,by exact aX,⟨gn⟩⟩
  ·have Qf:(i:Int)<=0:=aJ
   have gn:sD root S (i+1)/\S.length - (i+1) < S.length - i:=⟨hJ.step hx oD Ku λq hq _=>by exfalso;exact sP,cD⟩
   cbv
   exact ⟨i+1,by have bI:=gH;exact bp,by exact aX,⟨gn⟩⟩
 have cf:S.length<=i:=aJ
 have yV:qb (2+(ins.length:Int)+gs.length) root S=true:=hNe _ _ (hJ.fin cf gg jL h4)
 have yT:S.Nodup:=(zh.1 yV).inc.nodup
 have hSm:=(zh.1 yV).mem
 have hvi:JE ⟨ins,gs,outs,dr⟩ S root/\root.toNat<=root.toNat:=⟨⟨G,hS,xy (by decide) gg,hNi root jL⟩,fT _⟩
 clear h
 cbv
 refine iP.ue (W9 root.toNat) (λa y=>trivial) ⟨⟨ins,gs,outs,dr⟩,S,⟨λ_=>none,λ_=>none⟩,root⟩ [1,5,3,4,2,0,6] rfl (by exact aY) (by exact aX) ⟨hvi⟩ λy hy=>?_
 obtain ⟨res,⟨Is,Rs⟩⟩:=y
 have hy:mH ins.length gs S ⟨λ_=>none,λ_=>none⟩ root res ⟨Is,Rs⟩:=hy.out
 cbv
 refine ⟨λh=>?_,λh=>?_⟩
 ·have hr:res=false:=by have h':(!res)=true:=h.out;simpa using h'
  subst hr
  obtain ⟨w,sK,wZ⟩:=hy.no rfl
  obtain rfl:out=none:=by rw [<-bV];exact adZ G sK wZ
  cbv
  exact ⟨by exact aY⟩
 have hr:res=true:=by have h':(!res)=false:=h.out;simpa using h'
 subst hr
 have hC:=I1.of G gg hy
 have vd:=agr (rch:=Rs) yT (λu hu=>((hC.rch u).1 hu).2.2)
 have aP:=@filter_lt _ (λx=>(Rs x).isSome) S
 have cf:=@ac9 _ (λx=>(Rs x).isSome) S
 obtain ⟨ks,hk⟩:∃ks,S.filter (λx=>(Rs x).isSome)=ks:=⟨_,rfl⟩
 rw [hk] at vd aP cf
 have N1:∀x∈S,(Rs x).isSome=false->out=none:=λx hx hf=>by
  rw [<-bV]
  refine acT G hx λhr=>?_
  have:=(hC.rch x).2 ⟨by have:=hSm x hx;omega,hr,hx⟩
  rw [hf] at this;cases this
 have e6:(∀x∈S,(Rs x).isSome=true)->∃l,out=some l/\fX l/\∀u:Int,u∈l↔(Is u).isSome=true:=λha=>by
  obtain ⟨l,h1,h2,h3⟩:=acU G yV hC λx hx=>((hC.rch x).1 (ha x hx)).2.1
  exact ⟨l,by rw [<-bV];exact h1,h2,h3⟩
 have hkn:ks.Nodup/\∀n,n∈ks↔(Rs n).isSome=true:=⟨vd.nd,vd.mem⟩
 clear h
 cbv
 refine ⟨ks,⟨hkn⟩,?_⟩
 cbv
 refine ⟨λh=>?_,λh=>?_⟩
 ·have hl:ks.length < S.length:=aJ
  obtain ⟨x,hx,hf⟩:=aP hl
  obtain rfl:=N1 x hx hf
  cbv
  exact ⟨by exact aY⟩
 have hl:S.length<=ks.length:=aJ
 obtain ⟨l,rfl,Dp,Gr⟩:=e6 (cf hl)
 clear h
 cbv
 refine Sat.freeze 2 rfl rfl ?_
 refine Sat.jN (ags 0 0) ?_
 cbv
 refine Sat.z8 13 3 1 zS dv rfl ?_
 cbv
 have hlen:l.length<=1000000:=by
  have h1:l.length<=(List.range (root.toNat+1)).length:=by
   have h2:(l.map Int.toNat).Nodup:=by
    refine (pY.2 ((LI.2 ⟨Dp,SF (r:=λa b=>0<=a/\0<=b) λa ha b hb=>?_⟩).imp λ⟨a,b⟩=>by omega))
    have h3:=((hC.ins a).1 ((Gr a).1 ha)).1
    have h4:=((hC.ins b).1 ((Gr b).1 hb)).1
    omega
   have:=BI h2 (l₂:=List.range (root.toNat+1)) λw hw=>by
    obtain ⟨u,hu,rfl⟩:=jW.1 hw
    have h3:=((hC.ins u).1 ((Gr u).1 hu)).2.1
    have:=gE.le G h3
    exact mB.2 (by omega)
   rwa [kF] at this
  rw [HF] at h1
  have:=hN6 root jL
  omega
 refine Sat.eI (ND 0 0) 9 8 [(.t 13,8)] (λ_:List Int=>[(13,.own 8),(71,.ptr 7 0)]) (λsn=>[(7,.iter (.int .i64) FI (λ_=>Is) (λ_=>sn) none),(8,.dyn 3 1 bK (λ_=>sn))]) (λsn=>(∀n∈sn,n∈l)/\sn.Nodup) (λsn=>l.length - sn.length) [] (by exact aX) (by exact aX) ⟨λn hn=>(by cases hn),xI⟩ ?_
 rintro sn ⟨tR,AY⟩
 have tR:∀n∈sn,n∈l:=tR
 have AY:sn.Nodup:=AY
 have fV:sn.length<=l.length:=BI AY tR
 cbv
 refine ⟨λh=>?_,λn t h=>?_⟩
 ·have hov:∀n t,Is n=some t->n∈sn:=h.out
  have hsm:ql sn=l:=afs Dp AY λu=>⟨tR u,λhu=>by
   have:=(Gr u).1 hu
   cases hq:Is u with
   | none=>rw [hq] at this;cases this
   | some t=>exact hov u t hq⟩
  have AG:sn.length < 4611686018427387904:=by omega
  clear h
  cbv
  refine iP.ue Ny (λa y=>trivial) sn [8] rfl (by exact aY) (by exact aX) ⟨AG⟩ λy _=>?_
  cbv
  exact ⟨by have gM:=hsm;exact bN⟩
 ·obtain ⟨g1,g2⟩:Is n=some t/\n∉sn:=h.out
  have yG:n∈l:=(Gr n).2 (by rw [g1];rfl)
  have fB:(sn++[n]).Nodup:=HE.2 ⟨AY,by simp,λa ha b hb e=>by simp at hb;subst hb;subst e;exact g2 ha⟩
  have hms:∀q∈sn++[n],q∈l:=λq hq=>by
   rcases eE.1 hq with hq|hq
   ·exact tR q hq
   ·simp at hq;subst hq;exact yG
  have lx:(sn++[n]).length<=l.length:=BI fB hms
  have JV:(sn++[n]).length=sn.length+1:=by simp
  have b1:(sn.length+1)*8<=140737488355328:=by omega
  have b2:sn.length+1<=9223372036854775807:=by omega
  have gn:((∀q∈sn++[n],q∈l)/\(sn++[n]).Nodup)/\l.length - (sn++[n]).length < l.length - sn.length:=⟨⟨hms,fB⟩,by omega⟩
  clear h
  cbv
  refine ⟨[n],⟨by exact aY,b1,b2⟩,?_⟩
  cbv
  exact ⟨sn++[n],by exact aX,by exact bp,⟨gn⟩⟩
theorem ada {o A B C A' B' C':Int} (hA:A=A') (hB:2<=ku o->B=B') (hC:3<=ku o->C=C'):combineM o A B C=combineM o A' B' C':=by
 subst hA
 unfold ku at hB hC
 unfold combineM
 by_cases h1:o=1
 ·rw [if_pos h1,if_pos h1]
 ·rw [if_neg h1,if_neg h1]
  rw [if_neg h1] at hB hC
  by_cases h2:o=2\/o=3\/o=4
  ·rw [if_pos h2] at hB
   rw [hB (fT _)]
   rcases h2 with h|h|h<;>subst h<;>simp
  ·rw [if_neg h2] at hB hC
   rw [hB (by omega),hC (by omega)]
theorem aeq {I:Nat} {gs:List Gate} {S:List Int} (hn:S.Nodup) {i:Nat} {x:Int} (hx:S[i]?=some x) (h0:0<=x):lq I gs S x.toNat=uG i:=by
 obtain ⟨aP,AQ⟩:=bh.1 hx
 have h:S.findIdx? (λy=>decide (y=((x.toNat:Nat):Int)))=some i:=by
  rw [En]
  refine ⟨aP,by rw [AQ];simp;omega,λj hj=>?_⟩
  have:=qO.1 hn j i (by omega) aP hj
  simp only [Bool.not_eq_true,decide_eq_false_iff_not]
  rw [Int.toNat_of_nonneg h0,<-AQ];exact this
 rw [Ie]
 unfold Ch
 rw [h]
theorem V4 {S:List Int} {v:Nat} (h:(v:Int)∉S):S.findIdx? (λy=>decide (y=(v:Int)))=none:=by
 rw [BL]
 intro x hx
 exact decide_eq_false λe=>h (e ▸ hx)
theorem ah2 {I:Nat} {gs:List Gate} {S:List Int} (h:∀x∈S,2<=x):lq I gs S 0=0:=by
 rw [Ie];unfold Ch
 have hg:gJ I gs 0=none:=by unfold gJ;rw [if_pos (by omega)]
 rw [V4 λhm=>by have:=h _ hm;omega]
 simp only [hg]
 rfl
theorem ah3 {I:Nat} {gs:List Gate} {S:List Int} (h:∀x∈S,2<=x):lq I gs S 1=-1:=by
 rw [Ie];unfold Ch
 rw [V4 λhm=>by have:=h _ hm;omega]
 rfl
def u5 (m:Int->Option Int) (v t:Int):Int->Option Int:=λj=>if j=v then some t else m j
theorem Vo (m:Int->Option Int) (v t:Int):u5 m v t v=some t:=by unfold u5;rw [if_pos rfl]
theorem BW {m:Int->Option Int} {v t u:Int} (h:u≠v):u5 m v t u=m u:=by unfold u5;rw [if_neg h]
structure AZ (S:List Int) (j:Nat) (m:Int->Option Int):Prop where
 le:j<=S.length
 zero:m 0=some 0
 one:m 1=some (-1)
 leaf:∀i x,i < j->S[i]?=some x->m x=some (uG i)
theorem AZ.step {S:List Int} {j:Nat} {m:Int->Option Int} (h:AZ S j m) (hn:S.Nodup) (h2:∀x∈S,2<=x) {x:Int} (hx:S[j]?=some x):AZ S (j+1) (u5 m x (uG j)):=by
 have oD:=h2 x (cN hx)
 obtain ⟨aP,iB⟩:=bh.1 hx
 refine ⟨aP,by rw [BW (by omega)];exact h.zero,by rw [BW (by omega)];exact h.one,λi y hi hy=>?_⟩
 by_cases e:i=j
 ·subst e;rw [hx] at hy;cases hy;exact Vo _ _ _
 ·obtain ⟨bU,hyi⟩:=bh.1 hy
  have:=qO.1 hn i j bU aP (by omega)
  rw [BW (by rw [<-hyi,<-iB];exact this)]
  exact h.leaf i y (by omega) hy
structure w6 (I:Nat) (gs:List Gate) (S l:List Int) (i:Nat) (m:Int->Option Int):Prop where
 le:i<=l.length
 lo:∀u:Int,0<=u->u < 2->m u=some (lq I gs S u.toNat)
 leaf:∀u∈S,m u=some (lq I gs S u.toNat)
 nd:∀u∈l.take i,m u=some (lq I gs S u.toNat)
theorem AZ.fin {I:Nat} {gs:List Gate} {S:List Int} {j:Nat} {m:Int->Option Int} (h:AZ S j m) (hj:S.length<=j) (hn:S.Nodup) (h2:∀x∈S,2<=x) (l:List Int):w6 I gs S l 0 m:=by
 refine ⟨cP _,λu h0 h1=>?_,λu hu=>?_,by simp⟩
 ·rcases (by omega:u=0\/u=1) with rfl|rfl
  ·rw [h.zero];exact congrArg some (ah2 h2).symm
  ·rw [h.one];exact congrArg some (ah3 h2).symm
 ·obtain ⟨i,hi⟩:=pW hu
  rw [h.leaf i u (by have:=(bh.1 hi).1;omega) hi,aeq hn hi (by have:=h2 u hu;omega)]
theorem w6.step {I:Nat} {gs:List Gate} {S l:List Int} {i:Nat} {m:Int->Option Int} (h:w6 I gs S l i m) {v:Int} (hv:l[i]?=some v) (h2:2<=v) (hm:v∉S):w6 I gs S l (i+1) (u5 m v (lq I gs S v.toNat)):=by
 refine ⟨(bh.1 hv).1,λu h0 h1=>by rw [BW (by omega)];exact h.lo u h0 h1,λu hu=>by rw [BW λe=>hm (by rw [<-e];exact hu)];exact h.leaf u hu,λu hu=>?_⟩
 by_cases e:u=v
 ·subst e;exact Vo _ _ _
 ·rw [BW e]
  rw [ju,hv] at hu
  rcases eE.1 hu with hu|hu
  ·exact h.nd u hu
  ·simp at hu;exact absurd hu e
theorem w6.op {I:Nat} {gs:List Gate} (G:cI I gs) {S l:List Int} {root:Int} (hc:iE I gs root S=some l) {i:Nat} {m:Int->Option Int} (h:w6 I gs S l i m) {v:Int} (hv:l[i]?=some v) {g:Gate} (hg:gJ I gs v.toNat=some g) (h7:g.op≠7) {o:Int} (ho:o∈cR g):m o=some (lq I gs S o.toNat):=by
 obtain ⟨kM,fQ⟩:=Em G hc
 obtain ⟨wR,hvr,Dm⟩:=(fQ v).1 (cN hv)
 have Qh:((v.toNat:Nat):Int)=v:=Int.toNat_of_nonneg (by omega)
 have hon:o∈sQ I gs S v.toNat:=qU.2 ⟨by rw [Qh];exact Dm,g,hg,h7,ho⟩
 have aP:=EV G hon
 by_cases h1:o < 2
 ·exact h.lo o aP.1 h1
 ·by_cases h2:o∈S
  ·exact h.leaf o h2
  ·have e7:o∈l:=(fQ o).2 ⟨by omega,.step hvr hon,h2⟩
   obtain ⟨j,hj⟩:=pW e7
   obtain ⟨e8,sJ⟩:=bh.1 hj
   obtain ⟨bU,me⟩:=bh.1 hv
   have ry:j < i:=by
    rcases LX j i with q|q|q
    ·exact q
    ·subst q;rw [sJ] at me;omega
    ·have:=qO.1 kM i j bU e8 q;omega
   refine h.nd o (cN (i:=j) ?_)
   rw [kE,if_pos ry];exact hj
theorem Lk {I:Nat} {gs:List Gate} {S l:List Int} {root:Int} (h:iE I gs root S=some l):EW (2+I+gs.length) root S:=by
 unfold iE at h
 split at h
 ·exact zh.1 (by assumption)
 ·cases h
theorem adb {I:Nat} {gs:List Gate} (G:cI I gs) {S l:List Int} {root:Int} (h:iE I gs root S=some l):root∈S\/root∈l:=by
 have hL:=Lk h
 by_cases hm:root∈S
 ·exact .inl hm
 ·exact .inr (((Em G h).2 root).2 ⟨hL.lo,.base rfl,hm⟩)
theorem ah4 (g:Gate):g.a∈cR g:=by unfold cR ku;split<;>(try split)<;>simp
theorem ah5 {g:Gate} (h:2<=ku g.op):g.b∈cR g:=by
 unfold cR ku at *
 split at h
 ·omega
 ·split at h<;>simp_all
theorem ah6 {g:Gate} (h:3<=ku g.op):g.c∈cR g:=by
 unfold cR ku at *
 split at h
 ·omega
 ·split at h
  ·omega
  ·simp_all
theorem aer {I:Nat} {gs:List Gate} (G:cI I gs) {S l:List Int} {root:Int} (h:iE I gs root S=some l):l.length<=600:=by
 have hL:=Lk h
 have hb:=G.o9
 have h1:=hL.lo
 have h2:=hL.hi
 unfold iE at h
 split at h
 ·simp only at h
  split at h
  ·cases h
   rw [kF]
   refine nj (DV _ _) ?_
   rw [HF];omega
  ·cases h
 ·cases h
theorem ade {I:Nat} {gs:List Gate} (G:cI I gs) {S l:List Int} {root:Int} (h:iE I gs root S=some l) {v:Int} (hv:v∈l):∃g,gJ I gs v.toNat=some g/\g.op≠7:=by
 obtain ⟨h2,hr,hS⟩:=((Em G h).2 v).1 hv
 have Qh:((v.toNat:Nat):Int)=v:=Int.toNat_of_nonneg (by omega)
 unfold iE at h
 split at h
 ·simp only at h
  split at h
  ·rename_i e6
   simp only [cu] at e6
   have:=im.1 e6.1 v.toNat (mB.2 (by have:=gE.le G hr;omega))
   rw [(tj G).2 hr] at this
   rcases zp.1 (by simpa using this) with q|q|q
   ·rw [Qh] at q;exact absurd q hS
   ·omega
   ·exact q
  ·cases h
 ·cases h
structure ajL where
 n:Net
 root:Int
 S:List Int
 t:Int
 e:Int
structure OP (n:Net) (root:Int) (S:List Int) (t e:Int):Prop where
 G:cI n.ins.length n.cg
 gy:S.length<=1000000
 eq:uZ n.ins.length n.cg root S=(t,e)
@[reducible] noncomputable def Yb:Vc.Spec where
 α:=ajL
 args x:=[.agg (px x.n),.i .i64 (λ_=>x.root),.sl 1 bK (λ_=>x.S)]
 pre x:=OP x.n x.root x.S x.t x.e
 res x:=.ca [.i .i64 (λ_=>x.t),.i .i64 (λ_=>x.e)]
noncomputable def ajM (n m:Nat):Ctx:=cT n m [] [(41,Ya),(43,OG),(42,XV),(44,XW)]
theorem NF (n m:Nat):CB PP (ajM n m):=cW n m trivial ⟨agt,VN,af5,af6,trivial⟩
theorem agu:dw (PP ()) 36 Yb:=by
 refine fH (NF 0 0) (fo Try.func36) (λa=>⟨uH a.n,trivial,λx=>(dv x).1,trivial⟩) (λa=>⟨trivial,trivial,trivial⟩) ?_
 rintro ⟨⟨ins,gs,outs,dr⟩,root,S,t,e⟩ hx
 obtain ⟨G,hS,sU⟩:OP ⟨ins,gs,outs,dr⟩ root S t e:=hx
 have G:cI ins.length gs:=G
 have sU:uZ ins.length gs root S=(t,e):=sU
 have hb:=G.o9
 rcases hc:iE ins.length gs root S with _|l
 ·have uc:JG ⟨ins,gs,outs,dr⟩ root S none:=⟨G,hS,hc⟩
  unfold uZ at sU
  rw [hc] at sU
  cases sU
  refine ⟨?_⟩
  cbv
  refine ⟨⟨⟨ins,gs,outs,dr⟩,root,S,none⟩,⟨by exact aY,uc⟩,?_⟩
  cbv
  exact ⟨by exact aY⟩
 have uc:JG ⟨ins,gs,outs,dr⟩ root S (some l):=⟨G,hS,hc⟩
 have hL:=Lk hc
 have yT:=hL.inc.nodup
 have vj:∀x∈S,2<=x:=λx hx=>(hL.mem x hx).1
 have hS4:=hL.len
 obtain ⟨kM,fQ⟩:=Em G hc
 have kC:=aer G hc
 have hgN:∀v:Int,0<=v->∀g,gJ ins.length gs v.toNat=some g->v < wa ⟨ins,gs,outs,dr⟩:=λv h0 g hg=>by
  obtain ⟨i,hi,pE⟩:=pU.1 hg
  have:=(bh.1 pE).1
  show v < 2+(ins.length:Int)+gs.length
  omega
 refine ⟨?_⟩
 cbv
 refine ⟨⟨⟨ins,gs,outs,dr⟩,root,S,some l⟩,⟨by exact aY,uc⟩,?_⟩
 cbv
 refine ⟨0,⟨by exact aY⟩,?_⟩
 cbv
 refine ⟨-1,⟨by exact aY⟩,?_⟩
 cbv
 refine Sat.eI (NF 0 0) 2 11 [] (λy:Nat × (Int->Option Int)=>[(28,.sl 1 bK (λ_=>S)),(29,.i .i64 (λ_=>(S.length:Int))),(30,.i .i64 (λ_=>(y.1:Int)))]) (λy=>[(1,.map (.int .i64) bK (λ_=>y.2))]) (λy=>AZ S y.1 y.2) (λy=>S.length - y.1) (0,u5 (u5 (λ_=>none) 0 0) 1 (-1)) (by exact aX) (by exact aX) ⟨cP _,rfl,rfl,λi x h=>absurd h (tu _)⟩ ?_
 rintro ⟨j,m⟩ hJ
 have hJ:AZ S j m:=hJ
 have e8:=hJ.le
 have mi:=n0 j
 have pb:=eU (i:=j) (by omega)
 cbv
 refine ⟨λh=>?_,λh=>?_⟩
 ·have wI:j < S.length:=aJ
  have cD:S.length - (j+1) < S.length - j:=by omega
  refine (cy wI).elim λx hx=>?_
  have hj4:j < 4:=by omega
  obtain ⟨C,hC⟩:∃C,uG j=C:=⟨_,rfl⟩
  have b9:=hJ.step yT vj hx
  rw [hC] at b9
  obtain ⟨m2,oE⟩:∃m2,u5 m x C=m2:=⟨_,rfl⟩
  rw [oE] at b9
  have yW:(λk=>if k=x then some C else m k)=m2:=oE
  clear h
  cbv
  refine ⟨x,⟨mi,hx⟩,?_⟩
  cbv
  refine ⟨j,⟨by exact aY,hj4⟩,?_⟩
  cbv
  refine ⟨C,⟨by have bI:=hC;exact bN⟩,?_⟩
  cbv
  exact ⟨(j+1,m2),by have bI:=pb;exact bp,by have ru:=yW;exact bp,⟨⟨b9,cD⟩⟩⟩
 have cf:S.length<=j:=aJ
 have hT0:=hJ.fin (I:=ins.length) (gs:=gs) cf yT vj l
 clear h mi pb
 cbv
 refine Sat.eI (NF 0 0) 2 11 [] (λy:Nat × (Int->Option Int)=>[(40,.sl 1 bK (λ_=>l)),(41,.i .i64 (λ_=>(l.length:Int))),(42,.i .i64 (λ_=>(y.1:Int)))]) (λy=>[(1,.map (.int .i64) bK (λ_=>y.2))]) (λy=>w6 ins.length gs S l y.1 y.2) (λy=>l.length - y.1) (0,m) (by exact aX) (by exact aX) hT0 ?_
 rintro ⟨i,m⟩ hT
 have hT:w6 ins.length gs S l i m:=hT
 have bU:=hT.le
 have dY:=n0 i
 cbv
 refine ⟨λh=>?_,λh=>?_⟩
 ·have yQ:i < l.length:=aJ
  have cD:l.length - (i+1) < l.length - i:=by omega
  refine (cy yQ).elim λv hv=>?_
  obtain ⟨wR,hvr,Dm⟩:=(fQ v).1 (cN hv)
  obtain ⟨g,hg,h7⟩:=ade G hc (cN hv)
  have kD:0<=v:=xy (by decide) wR
  have fR:qf ⟨ins,gs,outs,dr⟩ v=(g,true):=by
   unfold qf
   rw [show gJ (Net.mk ins gs outs dr).ins.length (Net.mk ins gs outs dr).cg v.toNat=some g from hg]
   simp only [if_neg h7]
  have tV:ins.length<=1000/\gs.length<=1000/\0<=v/\v < wa ⟨ins,gs,outs,dr⟩/\qf ⟨ins,gs,outs,dr⟩ v=(g,true):=⟨by omega,by omega,kD,hgN v kD g hg,fR⟩
  have ff:∀o∈cR g,m o=some (lq ins.length gs S o.toNat):=λo ho=>hT.op G hc hv hg h7 ho
  have hA:=ff g.a (ah4 g)
  obtain ⟨ta,Ps⟩:∃ta,lq ins.length gs S g.a.toNat=ta:=⟨_,rfl⟩
  obtain ⟨R,hR⟩:∃R,lq ins.length gs S v.toNat=R:=⟨_,rfl⟩
  have I9:∀B C,(∀t,m g.b=some t->B=t)->(∀t,m g.c=some t->C=t)->combineM g.op ta B C=R:=λB C hB hC=>by
   rw [<-hR,acR G (by rw [Int.toNat_of_nonneg kD];exact Dm) hg]
   exact ada Ps.symm (λh=>hB _ (ff _ (ah5 h))) (λh=>hC _ (ff _ (ah6 h)))
  have b9:=hT.step hv wR Dm
  rw [Ps] at hA
  rw [hR] at b9
  obtain ⟨m2,oE⟩:∃m2,u5 m v R=m2:=⟨_,rfl⟩
  rw [oE] at b9
  have yW:(λk=>if k=v then some R else m k)=m2:=oE
  have gH:=eU (i:=i) (by omega)
  have gn:w6 ins.length gs S l (i+1) m2/\l.length - (i+1) < l.length - i:=⟨b9,cD⟩
  clear h
  rcases hB:m g.b with _|tb<;>rcases hC:m g.c with _|tc
  ·have kQ:=I9 0 0 (λt h=>by rw [hB] at h;cases h) (λt h=>by rw [hC] at h;cases h)
   cbv
   refine ⟨v,⟨dY,hv⟩,?_⟩
   cbv
   refine ⟨⟨⟨ins,gs,outs,dr⟩,v,g,true⟩,⟨by exact aY,tV⟩,?_⟩
   cbv
   refine ⟨some (some ta),⟨hA⟩,?_⟩
   cbv
   refine ⟨some none,⟨hB⟩,?_⟩
   cbv
   refine ⟨some none,⟨hC⟩,?_⟩
   cbv
   refine ⟨⟨g.op,ta,0,0,R⟩,⟨by exact aY,kQ⟩,?_⟩
   cbv
   refine ⟨R,⟨by exact aY⟩,?_⟩
   cbv
   exact ⟨(i+1,m2),by have bI:=gH;exact bp,by have ru:=yW;exact bp,⟨gn⟩⟩
  ·have kQ:=I9 0 tc (λt h=>by rw [hB] at h;cases h) (λt h=>by rw [hC] at h;cases h;rfl)
   cbv
   refine ⟨v,⟨dY,hv⟩,?_⟩
   cbv
   refine ⟨⟨⟨ins,gs,outs,dr⟩,v,g,true⟩,⟨by exact aY,tV⟩,?_⟩
   cbv
   refine ⟨some (some ta),⟨hA⟩,?_⟩
   cbv
   refine ⟨some none,⟨hB⟩,?_⟩
   cbv
   refine ⟨some (some tc),⟨hC⟩,?_⟩
   cbv
   refine ⟨⟨g.op,ta,0,tc,R⟩,⟨by exact aY,kQ⟩,?_⟩
   cbv
   refine ⟨R,⟨by exact aY⟩,?_⟩
   cbv
   exact ⟨(i+1,m2),by have bI:=gH;exact bp,by have ru:=yW;exact bp,⟨gn⟩⟩
  ·have kQ:=I9 tb 0 (λt h=>by rw [hB] at h;cases h;rfl) (λt h=>by rw [hC] at h;cases h)
   cbv
   refine ⟨v,⟨dY,hv⟩,?_⟩
   cbv
   refine ⟨⟨⟨ins,gs,outs,dr⟩,v,g,true⟩,⟨by exact aY,tV⟩,?_⟩
   cbv
   refine ⟨some (some ta),⟨hA⟩,?_⟩
   cbv
   refine ⟨some (some tb),⟨hB⟩,?_⟩
   cbv
   refine ⟨some none,⟨hC⟩,?_⟩
   cbv
   refine ⟨⟨g.op,ta,tb,0,R⟩,⟨by exact aY,kQ⟩,?_⟩
   cbv
   refine ⟨R,⟨by exact aY⟩,?_⟩
   cbv
   exact ⟨(i+1,m2),by have bI:=gH;exact bp,by have ru:=yW;exact bp,⟨gn⟩⟩
  ·have kQ:=I9 tb tc (λt h=>by rw [hB] at h;cases h;rfl) (λt h=>by rw [hC] at h;cases h;rfl)
   cbv
   refine ⟨v,⟨dY,hv⟩,?_⟩
   cbv
   refine ⟨⟨⟨ins,gs,outs,dr⟩,v,g,true⟩,⟨by exact aY,tV⟩,?_⟩
   cbv
   refine ⟨some (some ta),⟨hA⟩,?_⟩
   cbv
   refine ⟨some (some tb),⟨hB⟩,?_⟩
   cbv
   refine ⟨some (some tc),⟨hC⟩,?_⟩
   cbv
   refine ⟨⟨g.op,ta,tb,tc,R⟩,⟨by exact aY,kQ⟩,?_⟩
   cbv
   refine ⟨R,⟨by exact aY⟩,?_⟩
   cbv
   exact ⟨(i+1,m2),by have bI:=gH;exact bp,by have ru:=yW;exact bp,⟨gn⟩⟩
 have cf:l.length<=i:=aJ
 have hrt:m root=some (lq ins.length gs S root.toNat):=by
  rcases adb G hc with q|q
  ·exact hT.leaf root q
  ·exact hT.nd root (by rw [jt cf];exact q)
 obtain ⟨tr,htr⟩:∃tr,lq ins.length gs S root.toNat=tr:=⟨_,rfl⟩
 rw [htr] at hrt
 unfold uZ B3 at sU
 rw [hc,htr] at sU
 obtain ⟨ht,he⟩:=Prod.mk.inj sU
 have s1:(0:Int)<=((S.length:Nat):Int):=n0 _
 have s3:0<=IntKind.u64.wrap (1*2^min ((S.length:Nat):Int).toNat IntKind.u64.bits)/\IntKind.i64.wrap (IntKind.i64.wrap (1*2^min (IntKind.u64.wrap (1*2^min ((S.length:Nat):Int).toNat IntKind.u64.bits)).toNat IntKind.i64.bits) - 1)=2^2^S.length - 1:=by
  have:S.length=0\/S.length=1\/S.length=2\/S.length=3\/S.length=4:=by omega
  rcases this with q|q|q|q|q<;>rw [q]<;>decide
 obtain ⟨s2,s4⟩:=s3
 have nA:fJ .and .i64 tr (IntKind.i64.wrap (IntKind.i64.wrap (1*2^min (IntKind.u64.wrap (1*2^min ((S.length:Nat):Int).toNat IntKind.u64.bits)).toNat IntKind.i64.bits) - 1))=t:=by rw [s4];exact ht
 clear h s4
 cbv
 refine ⟨some (some tr),⟨hrt⟩,?_⟩
 cbv
 exact ⟨⟨s1⟩,⟨s2⟩,⟨by have bI:=nA;have gP:=he;exact bN⟩⟩
theorem SD {sig:Int->Option Int}:∀{S:List Int} {i:Nat} {x:Int},(∀j y,j < i->S[j]?=some y->(sig y).isSome=true)->S[i]?=some x->sig x=none->mG sig S=((S.take i).map λy=>(sig y).getD 0,false)
 | [],i,x,_,h,_=>by simp at h
 | y :: S,0,x,_,h,hn=>by
  simp at h;subst h
  unfold mG;rw [hn];rfl
 | y :: S,i+1,x,ha,h,hn=>by
  have hy:=ha 0 y (by omega) rfl
  obtain ⟨s,hs⟩:=qP.1 hy
  have ih:=SD (S:=S) (i:=i) (x:=x) (λj z hj hz=>ha (j+1) z (by omega) hz) h hn
  unfold mG
  simp only [hs,ih,List.take_succ_cons,gS,rT]
theorem acr {sig:Int->Option Int} {S:List Int} (h:∀j y,j < S.length->S[j]?=some y->(sig y).isSome=true):mG sig S=(S.map λy=>(sig y).getD 0,true) :=
 Hw λx hx=>by
  obtain ⟨j,hj⟩:=pW hx
  exact qP.1 (h j x (bh.1 hj).1 hj)
structure ajN where
 n:Net
 root:Int
 S:List Int
 sig:Int->Option Int
 c:Cell
 e:Int
structure JH (n:Net) (root:Int) (S:List Int) (sig:Int->Option Int) (c:Cell) (e:Int):Prop where
 G:cI n.ins.length n.cg
 gy:S.length<=1000000
 lo:2+(n.ins.length:Int)<=root
 hi:root < 2+(n.ins.length:Int)+n.cg.length
 eq:cellOf n.ins.length n.cg root S sig=(c,e)
@[reducible] noncomputable def OQ:Vc.Spec where
 α:=ajN
 args x:=[.agg (px x.n),.i .i64 (λ_=>x.root),.sl 1 bK (λ_=>x.S),.mp (.int .i64) bK (λ_=>x.sig)]
 pre x:=JH x.n x.root x.S x.sig x.c x.e
 res x:=.ca [.agg (lK x.c),.i .i64 (λ_=>x.e)]
noncomputable def ajO (n m:Nat):Ctx:=cT n m [] [(35,Jx),(22,OH),(36,Yb)]
theorem V5 (n m:Nat):CB PP (ajO n m):=cW n m trivial ⟨Nx,VO,agu,trivial⟩
theorem V6:dw (PP ()) 21 OQ:=by
 refine fH (V5 0 0) (fo Try.func21) (λa=>⟨uH a.n,trivial,λx=>(dv x).1,λx=>(dv x).1,trivial⟩) (λa=>⟨(BR _).1,trivial,trivial⟩) ?_
 rintro ⟨⟨ins,gs,outs,dr⟩,root,S,sig,⟨ci,ct,cr⟩,e⟩ hx
 obtain ⟨G,hS,gg,jL,nJ⟩:JH ⟨ins,gs,outs,dr⟩ root S sig ⟨ci,ct,cr⟩ e:=hx
 have G:cI ins.length gs:=G
 have gg:2+(ins.length:Int)<=root:=gg
 have jL:root < 2+(ins.length:Int)+gs.length:=jL
 have nJ:cellOf ins.length gs root S sig=(⟨ci,ct,cr⟩,e):=nJ
 have hb:=G.o9
 obtain ⟨Rf,mT⟩:∃Rf:Nat->List Int,∀i,Rf i=(S.take i).map λy=>(sig y).getD 0:=⟨_,λ_=>rfl⟩
 have Di:[]=Rf 0:=by rw [mT];rfl
 have AX:∀(i:Nat) (x s:Int),S[i]?=some x->sig x=some s->Rf i++[s]=Rf (i+1):=λi x s hx hs=>by
  rw [mT,mT,ju,hx,nX,vS,gS,HK,hs];rfl
 have wY:∀i,i<=S.length->(Rf i).length=i:=λi hi=>by rw [mT,kF,jv];omega
 have N1:∀(i:Nat) (x:Int),(∀j y,j < i->S[j]?=some y->(sig y).isSome=true)->S[i]?=some x->sig x=none->Rf i=ci/\0=ct/\-1=cr/\260=e:=λi x h1 h2 h3=>by
  have hc:=nJ
  unfold cellOf at hc
  rw [SD h1 h2 h3,<-mT] at hc
  simp only [ng,if_false,Prod.mk.injEq,Cell.mk.injEq] at hc
  obtain ⟨⟨a,b,c⟩,d⟩:=hc
  exact ⟨a,b,c,d⟩
 obtain ⟨A,hA⟩:∃A,Rf S.length=A:=⟨_,rfl⟩
 have pE:root.toNat - 2 - ins.length < gs.length:=by omega
 obtain ⟨g,hg⟩:=cy (l:=gs) pE
 have hga:gJ ins.length gs root.toNat=some g:=pU.2 ⟨_,by omega,hg⟩
 obtain ⟨tt,te,htt⟩:∃tt te,uZ ins.length gs root S=(tt,te):=⟨_,_,rfl⟩
 have ajP:(∀j y,j < S.length->S[j]?=some y->(sig y).isSome=true)->(if g.op=7 then ((⟨A,0,g.n⟩:Cell),if S=cR g then (0:Int) else 260) else if S=[root] then (⟨A,0,-1⟩,260) else (⟨A,tt,-1⟩,if te=0 then 0 else 260))=(⟨ci,ct,cr⟩,e):=λh=>by
  have hc:=nJ
  unfold cellOf at hc
  have hm:S.map (λy=>(sig y).getD 0)=A:=by rw [<-hA,mT,L5]
  rw [acr h,hm] at hc
  simp only [if_true,hga,htt] at hc
  exact hc
 have w1:IntKind.i64.wrap (root - 2)=root - 2:=eP (by omega) (by omega)
 have w2:IntKind.i64.wrap (IntKind.i64.wrap (root - 2) - (ins.length:Int))=root - 2 - ins.length:=by rw [w1];exact eP (by omega) (by omega)
 have FY:0<=IntKind.i64.wrap (IntKind.i64.wrap (root - 2) - (ins.length:Int))/\gs[(IntKind.i64.wrap (IntKind.i64.wrap (root - 2) - (ins.length:Int))).toNat]?=some g:=by
  rw [w2]
  refine ⟨by omega,?_⟩
  rw [show (root - 2 - (ins.length:Int)).toNat=root.toNat - 2 - ins.length by omega];exact hg
 have vj:S.length<=1000000000000:=by omega
 clear nJ hga
 refine ⟨?_⟩
 cbv
 refine Sat.qd 2 0 3 1 zS dv rfl rfl ?_
 cbv
 refine Sat.eI (V5 0 0) 4 11 [(.c 2 0,3)] (λi:Nat=>[(18,.sl 1 bK (λ_=>S)),(19,.i .i64 (λ_=>(S.length:Int))),(20,.i .i64 (λ_=>(i:Int)))]) (λi=>[(2,.fix 57 [.own 3,.ic .i64 0,.ic .i64 (-1)]),(3,.dyn 3 1 bK (λ_=>Rf i))]) (λi=>i<=S.length/\∀j y,j < i->S[j]?=some y->(sig y).isSome=true) (λi=>S.length - i) 0 (by exact aX) (by have eu:=Di;exact bp) ⟨cP _,λj y h=>absurd h (tu _)⟩ ?_
 intro i hi
 obtain ⟨hi,Qi⟩:i<=S.length/\∀j y,j < i->S[j]?=some y->(sig y).isSome=true:=hi
 have dY:=n0 i
 have gH:=eU (i:=i) (by omega)
 have hRi:=wY i hi
 have b1:((Rf i).length+1)*8<=140737488355328:=by omega
 have b2:(Rf i).length+1<=9223372036854775807:=by omega
 cbv
 refine ⟨λh=>?_,λh=>?_⟩
 ·have bU:i < S.length:=aJ
  have cD:S.length - (i+1) < S.length - i:=by omega
  refine (cy bU).elim λx hx=>?_
  clear h
  rcases hs:sig x with _|s
  ·obtain ⟨e1,e2,e3,e4⟩:=N1 i x Qi hx hs
   cbv
   refine ⟨x,⟨dY,hx⟩,?_⟩
   cbv
   refine ⟨some none,⟨hs⟩,?_⟩
   cbv
   exact ⟨by have gM:=e1;have gP:=e2;have yO:=e3;have Kc:=e4;exact bN⟩
  ·have Dd:=AX i x s hx hs
   have b9:(i+1<=S.length/\∀j y,j < i+1->S[j]?=some y->(sig y).isSome=true)/\S.length - (i+1) < S.length - i:=⟨⟨bU,λj y hj hy=>by
    by_cases q:j=i
    ·subst q;rw [hx] at hy;cases hy;rw [hs];rfl
    ·exact Qi j y (by omega) hy⟩,cD⟩
   cbv
   refine ⟨x,⟨dY,hx⟩,?_⟩
   cbv
   refine ⟨some (some s),⟨hs⟩,?_⟩
   cbv
   refine ⟨[s],⟨by exact aY,b1,b2⟩,?_⟩
   cbv
   exact ⟨i+1,by have bI:=gH;exact bp,by have eu:=Dd;exact bp,⟨b9⟩⟩
 have cf:S.length<=i:=aJ
 have hiS:i=S.length:=by omega
 subst hiS
 have hf:=ajP Qi
 obtain ⟨O,hO⟩:∃O,cR g=O:=⟨_,rfl⟩
 have hOl:O.length<=1000000000000:=by have:=(zz g).2;rw [hO] at this;omega
 rw [hO] at hf
 clear h
 cbv
 refine ⟨g,⟨FY⟩,?_⟩
 cbv
 refine ⟨λh=>?_,λh=>?_⟩
 ·have h7:g.op=7:=aJ
  rw [if_pos h7] at hf
  obtain ⟨⟨e1,e2,e3⟩,e4⟩:(A=ci/\0=ct/\g.n=cr)/\(if S=O then (0:Int) else 260)=e:=by simpa only [Prod.mk.injEq,Cell.mk.injEq] using hf
  have e1:=hA.trans e1
  clear h
  cbv
  refine ⟨g,⟨by exact aY,trivial⟩,?_⟩
  cbv
  refine ⟨⟨S,O⟩,⟨by have gM:=hO;exact bN,⟨vj,hOl⟩⟩,?_⟩
  cbv
  refine ⟨λh=>?_,λh=>?_⟩
  ·have bL:¬S=O:=by have h':(!decide (S=O))=true:=h.out;simpa using h'
   rw [if_neg bL] at e4
   cbv
   exact ⟨by have gM:=e1;have gP:=e2;have bI:=e3;have yO:=e4;exact bN⟩
  ·have heq:S=O:=by have h':(!decide (S=O))=false:=h.out;simpa using h'
   rw [if_pos heq] at e4
   cbv
   exact ⟨by have gM:=e1;have gP:=e2;have bI:=e3;have yO:=e4;exact bN⟩
 have h7:¬g.op=7:=aJ
 rw [if_neg h7] at hf
 have vv:([root]:List Int).length<=1000000000000:=by show 1<=1000000000000;decide
 clear h
 cbv
 refine ⟨⟨S,[root]⟩,⟨.inl ⟨by exact aY,rfl⟩,⟨vj,vv⟩⟩,?_⟩
 cbv
 refine ⟨λh=>?_,λh=>?_⟩
 ·have heq:S=[root]:=by have h':decide (S=[root])=true:=h.out;simpa using h'
  rw [if_pos heq] at hf
  obtain ⟨⟨e1,e2,e3⟩,e4⟩:(A=ci/\0=ct/\-1=cr)/\(260:Int)=e:=by simpa only [Prod.mk.injEq,Cell.mk.injEq] using hf
  have e1:=hA.trans e1
  cbv
  exact ⟨by have gM:=e1;have gP:=e2;have yO:=e3;have Kc:=e4;exact bN⟩
 have bL:¬S=[root]:=by have h':decide (S=[root])=false:=h.out;simpa using h'
 rw [if_neg bL] at hf
 obtain ⟨⟨e1,e2,e3⟩,e4⟩:(A=ci/\tt=ct/\-1=cr)/\(if te=0 then (0:Int) else 260)=e:=by simpa only [Prod.mk.injEq,Cell.mk.injEq] using hf
 have e1:=hA.trans e1
 have Ke:OP ⟨ins,gs,outs,dr⟩ root S tt te:=⟨G,hS,htt⟩
 clear h
 cbv
 refine ⟨⟨⟨ins,gs,outs,dr⟩,root,S,tt,te⟩,⟨by exact aY,Ke⟩,?_⟩
 cbv
 refine ⟨λh=>?_,λh=>?_⟩
 ·have sU:¬te=0:=aJ
  rw [if_neg sU] at e4
  cbv
  exact ⟨by have gM:=e1;have bI:=e2;have gP:=e3;have yO:=e4;exact bN⟩
 ·have sU:te=0:=aJ
  rw [if_pos sU] at e4
  cbv
  exact ⟨by have gM:=e1;have bI:=e2;have gP:=e3;have yO:=e4;exact bN⟩
end Go.Proofs.Pk
