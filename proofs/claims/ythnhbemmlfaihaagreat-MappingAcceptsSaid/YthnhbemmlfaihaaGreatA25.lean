import Derived.Test.YthnhbemmlfaihaaGreatA13
import Derived.Test.YthnhbemmlfaihaaGreatA14
import Derived.Test.YthnhbemmlfaihaaGreatA15
import Derived.Test.YthnhbemmlfaihaaGreatA18
import Derived.Test.YthnhbemmlfaihaaGreatA24
set_option linter.unusedVariables false
set_option linter.unusedSimpArgs false
set_option maxRecDepth 10000
set_option maxHeartbeats 64000000
namespace Go.Proofs.Pk
open Go Go.Vc
theorem abW {s s':dW} {g:Gate} (h:uB s g=some s'):∃l,s'.labels=s.labels++[1+bW s.labels l]:=by
 unfold uB at h
 dsimp only at h
 split at h
 ·cases h;exact ⟨_,rfl⟩
 ·split at h
  ·cases h
  ·split at h
   ·cases h
   ·cases h;exact ⟨_,rfl⟩
theorem US {I:Nat}:∀(n:Nat) {gs:List Gate} {s:dW},gs.length=n->iZ I gs=some s->∀x∈s.labels,x<=(n:Int)
 | 0,gs,s,hl,h,x,hx=>by
  obtain rfl:=gM hl
  cases h
  have:=(Bu.1 hx).2
  omega
 | n+1,gs,s,hl,h,x,hx=>by
  rcases List.eq_nil_or_concat gs with rfl|⟨hs,g,rfl⟩
  ·simp at hl
  rw [List.concat_eq_append] at h hl
  rw [HF] at h
  cases hp:iZ I hs with
  | none=>rw [hp] at h;cases h
  | some s0 =>
   rw [hp] at h
   have yj:hs.length=n:=by simp at hl;omega
   have ih:=US n yj hp
   obtain ⟨l,e⟩:=abW (show uB s0 g=some s from h)
   rw [e] at hx
   rcases eF.1 hx with hx|hx
   ·have:=ih x hx;omega
   ·rw [qH] at hx
    have:bW s0.labels l<=(n:Int):=w9 (by omega) λv _=>by
     rw [List.getD_eq_getElem?_getD]
     cases hv:s0.labels[v.toNat]? with
     | none=>show (0:Int)<=n;omega
     | some y=>exact ih y (cM hv)
    omega
theorem T0:∀(U N:List (List Int)),(U.foldl qO N).length<=N.length+U.length
 | [],N=>fN _
 | u :: U,N=>by
  rw [lu]
  have h1:=T0 U (qO N u)
  have h2:(qO N u).length<=N.length+1:=by
   unfold qO
   split
   ·exact TZ N u
   ·omega
  rw [mY];omega
theorem T2 (Co:List (List Int)):∀A:List (List Int),(A.flatMap λa=>Co.map λb=>jR a b).length=A.length*Co.length
 | []=>by simp
 | a :: A=>by
  rw [o6,gn,T2 Co A,jQ,mY,Nat.add_mul];omega
theorem acE (A Co:List (List Int)):(p8 A Co).length<=A.length*Co.length:=by
 have:=T0 (A.flatMap λa=>Co.map λb=>jR a b) []
 rw [T2,Bd,mZ] at this
 exact this
theorem T3 {C:List (List (List Int))} (hC:∀c∈C,c.length<=400):∀(ops:List Int) (A:List (List Int)),(ops.foldl (λall o=>p8 all (C.getD o.toNat [])) A).length<=A.length*400^ops.length
 | [],A=>by simp
 | o :: r,A=>by
  rw [lu]
  have h1:=T3 hC r (p8 A (C.getD o.toNat []))
  have h2:(C.getD o.toNat []).length<=400:=by
   rw [List.getD_eq_getElem?_getD]
   cases h:C[o.toNat]? with
   | none=>exact cI _
   | some c=>exact hC c (cM h)
  have h3:=na (acE A (C.getD o.toNat [])) (Nat.mul_le_mul_left A.length h2)
  have h4:=uf (400^r.length) h3
  rw [mY,Nat.pow_succ,Nat.mul_comm (400^r.length) 400,<-Nat.mul_assoc]
  exact na h1 h4
theorem abX {C:List (List (List Int))} (hC:∀c∈C,c.length<=400) {ops:List Int} (ho:ops.length<=3):(nP C ops).length<=100000000:=by
 unfold nP
 rw [(wX _).length_eq]
 have h1:=T3 hC ops [[]]
 have h2:400^ops.length<=400^3:=Lm (by omega) ho
 have h3:(400:Nat)^3=64000000:=by decide
 simp only [y5,Nat.one_mul] at h1
 omega
theorem cC.take {I:Nat} {gs:List Gate} (G:cC I gs) (j:Nat):cC I (gs.take j):=cC.left (hs:=gs.drop j) (by rw [List.take_append_drop];exact G)
theorem SZ {A:Type} {l:List A} {j:Nat} {x:A} (h:l[j]?=some x):l.take (j+1)=l.take j++[x]:=by rw [iT,h];rfl
theorem ae0 {n:Net} (G:cC n.ins.length n.cq) {j:Nat} (hj:j < n.cq.length) {s:dW} (hs:iZ n.ins.length (n.cq.take j)=some s):Cr n s (2+n.ins.length+j) (iZ n.ins.length (n.cq.take (j+1))):=by
 have Ol:=G.mK
 have Gt:=G.take j
 have iw:=HQ _ rfl Gt hs
 have PO:(n.cq.take j).length=j:=by rw [lq];omega
 have zO:∀x∈s.labels,0<=x/\x<=1000000:=λx hx=>by
  have h1:=US _ PO hs x hx
  have h2:=iw.pos x hx
  omega
 have l9:=iw.len
 have j3:=iw.Cj
 have Al:=iw.oN
 rw [PO] at l9 j3 Al
 have hg:∀g,n.cq[2+n.ins.length+j - 2 - n.ins.length]?=some g->n.cq[j]?=some g:=λg h=>by rw [<-h];congr 1;omega
 have e8:∀l:List Int,l.length<=4->(∀x∈l,0<=x/\x < 2+(n.ins.length:Int)+j)->jZ s.labels l:=λl h1 h2=>⟨by omega,λv hv=>by have:=h2 v hv;rw [l9];omega,zO⟩
 refine ⟨by omega,l9,j3,Al,by omega,by omega,λh=>by omega,λg _ h=>?_,λg _ h _=>?_,λg _ h h7=>?_⟩
 ·rw [SZ (hg g h),HF,hs];rfl
 ·have ho:=vI g
  exact e8 _ (by omega) (G.ops (hg g h))
 ·have FJ:=hg g h
  have ho:=vI g
  have fg:=G.ops FJ
  have G1:cC n.ins.length (n.cq.take j++[g]):=by rw [<-SZ FJ];exact G.take (j+1)
  have hM:=L5 Gt iw (m:=2+n.ins.length+j) (by rw [PO];omega) (l:=cH g) (λo ho=>by have:=fg o ho;omega)
  refine ⟨⟨ho.2,λo ho=>by have:=fg o ho;rw [j3];omega,iw.gY,λc hc l hl=>?_,rfl,?_⟩,abX iw.gY ho.2,λy hy=>e8 y (hM.len y hy) λx hx=>by have:=hM.lim y hy x hx;omega⟩
  ·obtain ⟨v,hv⟩:=qG hc
   exact (iw.cut v c hv).1.len l hl
  ·exact List.length_pos_iff.2 (aco G1 iw)
theorem abw (k:Nat):jY (k+1)=⟨(jY k).labels++[0],(jY k).gv++[[[2+(k:Int)]]],(jY k).leaves++[[]]⟩:=by
 simp only [jY,dW.mk.injEq]
 refine ⟨?_,?_,?_⟩
 ·rw [<-Nat.add_assoc,List.replicate_succ']
 ·rw [LD,vC,vB];rfl
 ·rw [<-Nat.add_assoc,List.replicate_succ']
theorem adU {n:Net} (hb:n.ins.length+n.cq.length<=1000000) {k:Nat} (hk:k < n.ins.length):Cr n (jY k) (2+k) (some (jY (k+1))):=by
 refine ⟨by omega,by simp [jY],by simp [jY];omega,by simp [jY],hb,by omega,λ_=>?_,λg h=>by omega,λg h=>by omega,λg h=>by omega⟩
 rw [abw,Int.natCast_add];rfl
def lH (I:Nat) (gs:List Gate) (k:Nat):Option dW:=if k<=I then some (jY k) else iZ I (gs.take (k - I))
theorem VC (I:Nat) (gs:List Gate):lH I gs 0=some (jY 0):=by unfold lH;rw [if_pos (cI _)]
theorem MN {I:Nat} {gs:List Gate} {j:Nat}:lH I gs (I+j)=iZ I (gs.take j):=by
 unfold lH
 split
 ·have:j=0:=by omega
  subst this;rfl
 ·rw [Lf]
theorem adV {I:Nat} {gs:List Gate} {k:Nat} (h:I+gs.length<=k):lH I gs k=iZ I gs:=by
 obtain ⟨j,rfl⟩:∃j,k=I+j:=⟨k - I,by omega⟩
 rw [MN,iM (by omega)]
theorem S1 {I:Nat}:∀(hs gs:List Gate),iZ I gs=none->iZ I (gs++hs)=none
 | [],gs,h=>by simpa using h
 | g :: hs,gs,h=>by
  rw [show gs++g :: hs=(gs++[g])++hs by simp]
  exact S1 hs _ (by rw [HF,h];rfl)
theorem acF {I:Nat} {gs:List Gate} {k:Nat} (h:lH I gs k=none):iZ I gs=none:=by
 unfold lH at h
 split at h
 ·cases h
 ·have:=S1 (gs.drop (k - I)) _ h
  rwa [List.take_append_drop] at this
theorem ahx {n:Net} (G:cC n.ins.length n.cq) {k:Nat} (hk:k < n.ins.length+n.cq.length) {s:dW} (hs:lH n.ins.length n.cq k=some s):Cr n s (2+k) (lH n.ins.length n.cq (k+1)):=by
 have hb:=G.mK
 by_cases hi:k < n.ins.length
 ·unfold lH at hs ⊢
  rw [if_pos (by omega)] at hs ⊢
  cases hs
  exact adU (by omega) hi
 ·obtain ⟨j,rfl⟩:∃j,k=n.ins.length+j:=⟨k - n.ins.length,by omega⟩
  rw [MN] at hs
  rw [Nat.add_assoc n.ins.length,MN,<-Nat.add_assoc 2]
  exact ae0 G (by omega) hs
structure WL where
 n:Net
 out:Option dW
@[reducible] noncomputable def Om:Vc.Spec where
 α:=WL
 args x:=[.agg [.sl 3 jT (λ_=>x.n.ins),.sl 5 lY (λ_=>x.n.cq),.sl 3 jT (λ_=>x.n.outs),.sl 1 bJ (λ_=>x.n.bA)]]
 pre x:=cC x.n.ins.length x.n.cq/\iZ x.n.ins.length x.n.cq=x.out
 res x:=match x.out with
  | some s=>.cd [.db (Jm x.n s) 0,.ic .i64 0]
  | none=>.cd [.cell,.ic .i64 2]
noncomputable def ai5 (n m:Nat):Ctx:=cW n m [] [] [] [] [] [113,35] [35]
theorem VD (n m:Nat):CB PP (ai5 n m):=cZ n m trivial trivial
noncomputable def ai6 (n m:Nat):Ctx:=cW n m [] []
theorem afZ (n m:Nat):CB PP (ai6 n m):=cZ n m trivial trivial
noncomputable def ai7 (n m:Nat):Ctx:=cW n m [(237,Tryz.f237)] [] [237] [] [1,2,9]
theorem VE (n m:Nat):CB PP (ai7 n m):=cZ n m ⟨fo Tryz.func237,trivial⟩ trivial
theorem VF:cY (PP ()) 181 Om:=by
 refine e6 (VE 0 0) (fo Tryz.func181) (λa=>⟨⟨λx=>(rN x).1,λx=>(uu x).1,λx=>(rN x).1,λx=>(dq x).1,trivial⟩,trivial⟩) (λa=>by rcases a with ⟨n,_|s⟩<;>first|exact ⟨trivial,trivial,trivial⟩|exact ⟨UM n s,trivial,trivial⟩) ?_
 rintro ⟨⟨ins,gs,outs,dr⟩,out⟩ hx
 obtain ⟨G,di⟩:cC ins.length gs/\iZ ins.length gs=out:=hx
 have hb:=G.mK
 obtain ⟨N,hN⟩:∃N,ins.length+gs.length=N:=⟨_,rfl⟩
 have hw:IntKind.i64.wrap ((ins.length:Int)+(gs.length:Int))=(N:Int):=by rw [dV (by omega) (by omega)];omega
 obtain ⟨Sf,qi⟩:∃Sf:Nat->dW,∀k,Sf k=(lH ins.length gs k).getD ⟨[],[],[]⟩:=⟨_,λ_=>rfl⟩
 have Ka:lH ins.length gs 0=some (Sf 0):=by rw [qi,VC];rfl
 have Jq:Sf 0=jY 0:=by rw [qi,VC];rfl
 have z1:[0,0]=(Sf 0).labels:=by rw [Jq];rfl
 have z2:[[[]],[[]]]=(Sf 0).gv:=by rw [Jq];rfl
 have z3:List.replicate (2:Int).toNat ([]:List Int)=(Sf 0).leaves:=by rw [Jq];rfl
 have hSs:∀k s',lH ins.length gs k=some s'->Sf k=s':=λk s' h=>by rw [qi,h];rfl
 have ff:∀k,k < N->lH ins.length gs k=some (Sf k)->Cr ⟨ins,gs,outs,dr⟩ (Sf k) (2+k) (lH ins.length gs (k+1)):=λk hk h=>ahx (n:=⟨ins,gs,outs,dr⟩) G (by show k < ins.length+gs.length;omega) h
 have dC:∀k,lH ins.length gs k=none->out=none:=λk h=>by rw [<-di];exact acF h
 have nk:∀k,N<=k->lH ins.length gs k=some (Sf k)->out=some (Sf k):=λk hk h=>by rw [<-di,<-adV (by omega:ins.length+gs.length<=k)];exact h
 have hNb:N<=600:=by omega
 clear qi Jq
 refine ⟨?_⟩
 cbv
 refine Sat.j8 (VD 0 0) ?_
 cbv
 refine Sat.j8 (VD 0 0) ?_
 cbv
 refine ⟨[0,0],⟨by exact a8,rfl⟩,?_⟩
 cbv
 refine ⟨[[[]],[[]]],⟨by exact a8,rfl⟩,?_⟩
 cbv
 refine ⟨⟨by decide,by decide,by decide,by decide⟩,?_⟩
 refine Sat.dP (VE 0 0) 7 6 [(.c 6 4,3),(.c 6 5,4),(.c 6 6,5)] (λk:Nat=>[(23,.i .i64 (λ_=>(N:Int))),(24,.i .i64 (λ_=>(k:Int)))]) (λk=>[(3,.dyn 3 1 bJ (λ_=>(Sf k).labels)),(4,.dyn 36 1 zt (λ_=>(Sf k).gv)),(5,.dyn 35 1 fT (λ_=>(Sf k).leaves))]) (λk=>k<=N/\lH ins.length gs k=some (Sf k)) (λk=>N - k) 0 (by have bK:=hw;exact bq) (by have eH:=z1;have pz:=z2;have va:=z3;exact bq) ⟨cI _,Ka⟩ ?_
 intro k hk
 obtain ⟨hk,CT⟩:k<=N/\lH ins.length gs k=some (Sf k):=hk
 have kJ:=eh (i:=k) (by omega)
 have hv:IntKind.i64.wrap (2+(k:Int))=((2+k:Nat):Int):=by rw [dV (by omega) (by omega)];omega
 cbv
 refine ⟨λh=>?_,λh=>?_⟩
 rotate_left
 ·have bV:N<=k:=aG
  obtain rfl:=nk k bV CT
  cbv
  refine Sat.freeze 3 rfl rfl ?_
  refine Sat.freeze 4 rfl rfl ?_
  refine Sat.freeze 5 rfl rfl ?_
  refine Sat.freeze 6 rfl rfl ?_
  refine Sat.j8 (afZ 0 0) ?_
  cbv
  exact ⟨by exact a8⟩
 have ZM:k < N:=aG
 have x3:=ff k ZM CT
 obtain ⟨V,hV⟩:∃V,2+k=V:=⟨_,rfl⟩
 rw [hV] at x3 hv
 have cf:N - (k+1) < N - k:=by omega
 clear h
 rcases hO:lH ins.length gs (k+1) with _|s'
 ·rw [hO] at x3
  obtain rfl:=dC (k+1) hO
  cbv
  refine iW.tP WK (λa y=>trivial) ⟨⟨ins,gs,outs,dr⟩,Sf k,V,none⟩ [6,3,4,5] rfl (by have bK:=hv;exact bM) (by exact aW) ⟨x3⟩ λ_ _=>?_
  cbv
  refine ⟨λh=>?_,λh=>?_⟩
  ·cbv
   exact ⟨by ((try cbv)<;>((repeat' first|exact cO.nil|exact Le.refl _|refine cO.cons ?_ ?_|exact Le.ic rfl|exact Le.bc rfl|exact Le.i rfl|exact Le.b rfl|exact Le.sl rfl|exact Le.mp rfl|exact Le.fC rfl|exact Le.nX rfl|refine Le.cG rfl (λ_=>?_)|refine Le.dK rfl (λ_ _=>rfl) (λ_=>?_) ?_|refine Le.agg ?_|refine Le.cd ?_|refine Le.fn ?_ ?_|refine Le.db ?_|exact trivial|refine And.intro ?_ ?_|refine λ_=>?_|exact Le.any _)))<;>exact .cell rfl⟩
  ·have h':(!(none:Option dW).isSome)=false:=h.out
   cases h'
 ·rw [hO] at x3
  have e:=hSs (k+1) s' hO
  have e1:((some s').getD (Sf k)).labels=(Sf (k+1)).labels:=by rw [e];rfl
  have e2:((some s').getD (Sf k)).gv=(Sf (k+1)).gv:=by rw [e];rfl
  have e3:((some s').getD (Sf k)).leaves=(Sf (k+1)).leaves:=by rw [e];rfl
  have fv:(k+1<=N/\lH ins.length gs (k+1)=some (Sf (k+1)))/\N - (k+1) < N - k:=⟨⟨ZM,by rw [e];exact hO⟩,cf⟩
  cbv
  refine iW.tP WK (λa y=>trivial) ⟨⟨ins,gs,outs,dr⟩,Sf k,V,some s'⟩ [6,3,4,5] rfl (by have bK:=hv;exact bM) (by exact aW) ⟨x3⟩ λ_ _=>?_
  cbv
  refine ⟨λh=>?_,λh=>?_⟩
  ·have h':(!(some s').isSome)=true:=h.out
   cases h'
  cbv
  exact ⟨k+1,by have bK:=kJ;exact bq,by have eH:=e1;have pz:=e2;have va:=e3;exact bq,⟨fv⟩⟩
@[reducible] noncomputable def XI:Vc.Spec where
 α:=WL
 args x:=[.agg [.sl 3 jT (λ_=>x.n.ins),.sl 5 lY (λ_=>x.n.cq),.sl 3 jT (λ_=>x.n.outs),.sl 1 bJ (λ_=>x.n.bA)]]
 pre x:=cC x.n.ins.length x.n.cq/\iZ x.n.ins.length x.n.cq=x.out
 res x:=match x.out with
  | some s=>.cd [.sl 1 bJ (λ_=>s.labels),.ic .i64 0]
  | none=>.cd [.cG,.ic .i64 2]
noncomputable def ai8 (n m:Nat):Ctx:=cW n m [] [(181,Om)]
theorem af0 (n m:Nat):CB PP (ai8 n m):=cZ n m trivial ⟨VF,trivial⟩
theorem af1:cY (PP ()) 105 XI:=by
 refine e6 (af0 0 0) (fo Tryz.func105) (λa=>⟨⟨λx=>(rN x).1,λx=>(uu x).1,λx=>(rN x).1,λx=>(dq x).1,trivial⟩,trivial⟩) (λa=>by rcases a with ⟨n,_|s⟩<;>first|exact ⟨trivial,trivial,trivial⟩|exact ⟨λx=>(dq x).1,trivial,trivial⟩) ?_
 rintro ⟨⟨ins,gs,outs,dr⟩,_|s⟩ hx
 ·have hx:cC ins.length gs/\iZ ins.length gs=none:=hx
  refine ⟨?_⟩
  cbv
  refine ⟨⟨⟨ins,gs,outs,dr⟩,none⟩,⟨by exact a8,hx⟩,?_⟩
  cbv
  exact ⟨by exact a8⟩
 ·have hx:cC ins.length gs/\iZ ins.length gs=some s:=hx
  refine ⟨?_⟩
  cbv
  refine ⟨⟨⟨ins,gs,outs,dr⟩,some s⟩,⟨by exact a8,hx⟩,?_⟩
  cbv
  exact ⟨by exact a8⟩
def xZ (k:Nat) (v:Int):Option Int:=if 0<=v/\v < k then some v else none
theorem af2:(λ_=>none)=xZ 0:=by funext v;unfold xZ;rw [if_neg (by omega)]
theorem acG (k:Nat):(λj=>if j=(k:Int) then some (k:Int) else xZ k j)=xZ (k+1):=by
 funext j
 unfold xZ
 by_cases h:j=k
 ·rw [if_pos h,if_pos (by omega),h]
 ·rw [if_neg h]
  by_cases h2:0<=j/\j < k
  ·rw [if_pos h2,if_pos (by omega)]
  ·rw [if_neg h2,if_neg (by omega)]
theorem adW (I:Nat) (roots:List Int):xZ (2+I)=fU I (roots.take 0):=by
 funext v
 unfold xZ fU
 by_cases h:0<=v/\v < 2+(I:Int)
 ·rw [if_pos (by omega),if_pos h]
 ·rw [if_neg (by omega),if_neg h];rfl
theorem acH {I:Nat} {roots:List Int} {i:Nat} {r:Int} (hr:roots[i]?=some r) (hn:roots.Nodup) (gS:2+(I:Int)<=r):(λj=>if j=r then some (2+(I:Int)+i) else fU I (roots.take i) j)=fU I (roots.take (i+1)):=by
 obtain ⟨aP,CY⟩:=bf.1 hr
 have hlen:(roots.take i).length=i:=by rw [lq];omega
 have ai9:r∉roots.take i:=λhm=>by
  obtain ⟨j,hj⟩:=qG hm
  rw [kR] at hj
  split at hj
  ·obtain ⟨ei,sr⟩:=bf.1 hj
   exact qC.1 hn j i ei aP (by assumption) (by rw [sr,CY])
  ·cases hj
 funext j
 unfold fU
 rw [iT,hr,mW,List.findIdx?_append]
 by_cases h:j=r
 ·subst h
  have dC:List.findIdx? (λx=>decide (x=j)) (roots.take i)=none:=Bp.2 λx hx=>decide_eq_false λe=>ai9 (by rw [<-e];exact hx)
  rw [if_pos rfl,if_neg (by omega),dC]
  simp [List.findIdx?_cons,hlen]
 ·rw [if_neg h]
  split
  ·rfl
  ·have e:List.findIdx? (λx=>decide (x=j)) [r]=none:=by
    have:¬r=j:=λe=>h e.symm
    simp [List.findIdx?_cons,this]
   rw [e]
   cases List.findIdx? (λx=>decide (x=j)) (roots.take i)<;>rfl
structure aja where
 n:Net
 roots:List Int
structure B1 (I:Nat) (roots:List Int):Prop where
 len:roots.length<=1000000
 nd:roots.Nodup
 lo:∀r∈roots,2+(I:Int)<=r
@[reducible] noncomputable def Jr:Vc.Spec where
 α:=aja
 args x:=[.agg [.sl 3 jT (λ_=>x.n.ins),.sl 5 lY (λ_=>x.n.cq),.sl 3 jT (λ_=>x.n.outs),.sl 1 bJ (λ_=>x.n.bA)],.sl 1 bJ (λ_=>x.roots)]
 pre x:=x.n.ins.length<=1000000/\B1 x.n.ins.length x.roots
 res x:=.mp (.int .i64) bJ (λ_=>fU x.n.ins.length x.roots)
noncomputable def ajb (n m:Nat):Ctx:=cW n m [] []
theorem M7 (n m:Nat):CB PP (ajb n m):=cZ n m trivial trivial
theorem M8:cY (PP ()) 115 Jr:=by
 refine e6 (M7 0 0) (fo Tryz.func115) (λa=>⟨⟨λx=>(rN x).1,λx=>(uu x).1,λx=>(rN x).1,λx=>(dq x).1,trivial⟩,λx=>(dq x).1,trivial⟩) (λa=>λx=>(dq x).1) ?_
 rintro ⟨⟨ins,gs,outs,dr⟩,R⟩ hx
 obtain ⟨hI,F6,AA,tM⟩:ins.length<=1000000/\B1 ins.length R:=hx
 obtain ⟨Af,wG⟩:∃Af:Nat->Int->Option Int,∀k,Af k=xZ k:=⟨_,λ_=>rfl⟩
 obtain ⟨Sf,qi⟩:∃Sf:Nat->Int->Option Int,∀i,Sf i=fU ins.length (R.take i):=⟨_,λ_=>rfl⟩
 have yd:(λ_=>none)=Af 0:=by rw [wG];exact af2
 have PM:∀k:Nat,(λj=>if j=(k:Int) then some (k:Int) else Af k j)=Af (k+1):=λk=>by rw [wG,wG];exact acG k
 have ZN:Af (2+ins.length)=Sf 0:=by rw [wG,qi];exact adW _ _
 have yk:∀(i:Nat) (r:Int),R[i]?=some r->(λj=>if j=r then some (2+(ins.length:Int)+i) else Sf i j)=Sf (i+1):=λi r hr=>by rw [qi,qi];exact acH hr AA (tM r (cM hr))
 have nk:∀i:Nat,R.length<=i->Sf i=fU ins.length R:=λi hi=>by rw [qi,iM hi]
 obtain ⟨T,hT⟩:∃T,2+ins.length=T:=⟨_,rfl⟩
 have hw:IntKind.i64.wrap (2+(ins.length:Int))=(T:Int):=by rw [dV (by omega) (by omega)];omega
 have tR:∀i:Nat,i<=1000000->IntKind.i64.wrap (IntKind.i64.wrap (2+(ins.length:Int))+(i:Int))=2+(ins.length:Int)+i:=λi hi=>by rw [hw,dV (by omega) (by omega)];omega
 rw [hT] at ZN
 refine ⟨?_⟩
 cbv
 refine Sat.dP (M7 0 0) 2 6 [] (λk:Nat=>[(13,.i .i64 (λ_=>(T:Int))),(14,.i .i64 (λ_=>(k:Int)))]) (λk=>[(1,.map (.int .i64) bJ (λ_=>Af k))]) (λk=>k<=T) (λk=>T - k) 0 (by have bK:=hw;exact bq) (by have q8:=yd;exact bq) (cI _) ?_
 intro k hk
 have hk:k<=T:=hk
 have kJ:=eh (i:=k) (by omega)
 have qh:=PM k
 cbv
 refine ⟨λh=>?_,λh=>?_⟩
 ·have PQ:k < T:=aG
  have cf:T - (k+1) < T - k:=by omega
  clear h
  cbv
  refine ⟨(k:Int),⟨by exact a8⟩,?_⟩
  cbv
  exact ⟨k+1,by have bK:=kJ;exact bq,by have q8:=qh;exact bq,⟨⟨PQ,cf⟩⟩⟩
 have bV:T<=k:=aG
 have PQ:k=T:=by omega
 subst PQ
 clear h
 cbv
 refine Sat.dP (M7 0 0) 2 6 [] (λi:Nat=>[(21,.sl 1 bJ (λ_=>R)),(22,.i .i64 (λ_=>(R.length:Int))),(23,.i .i64 (λ_=>(i:Int)))]) (λi=>[(1,.map (.int .i64) bJ (λ_=>Sf i))]) (λi=>i<=R.length) (λi=>R.length - i) 0 (by exact aW) (by have q8:=ZN;exact bq) (cI _) ?_
 intro i hi
 have hi:i<=R.length:=hi
 have dv:=n0 i
 have eW:=eh (i:=i) (by omega)
 have hx:=tR i (by omega)
 have yl:=yk i
 obtain ⟨X,hX⟩:∃X,2+(ins.length:Int)+i=X:=⟨_,rfl⟩
 rw [hX] at hx yl
 cbv
 refine ⟨λh=>?_,λh=>?_⟩
 ·have bO:i < R.length:=aG
  have cf:R.length - (i+1) < R.length - i:=by omega
  refine (cg bO).elim λr hr=>?_
  have AD:=yl r hr
  clear h
  cbv
  refine ⟨r,⟨dv,hr⟩,?_⟩
  cbv
  refine ⟨X,⟨by have bK:=hx;exact bM⟩,?_⟩
  cbv
  exact ⟨i+1,by have bK:=eW;exact bq,by have q8:=AD;exact bq,⟨⟨bO,cf⟩⟩⟩
 ·have bV:R.length<=i:=aG
  have hf:=nk i bV
  cbv
  exact ⟨by have FV:=hf;exact bM⟩
structure ahy where
 n:Net
 S:List Int
 st:ma
 v:Int
structure ViR where
 res:Bool
 st:ma
abbrev Fj:Unit->List SV:=λ_=>[.bc true]
def XJ (n:Net) (S:List Int) (st:ma):List Slot:=[.fix 35 [.sl 1 bJ (λ_=>S)],.fix 184 [.fA 2],.map (.int .i64) Fj (λ_=>st.rch),.fix 184 [.fA 4],.map (.int .i64) Fj (λ_=>st.ins),.fix 48 (oj n),.fix 180 [.fn (.func 262) [] [.ptr 0 0,.ptr 1 0,.ptr 3 0,.ptr 5 0,.ptr 6 0]]]
structure Js (n:Net) (S:List Int) (v:Int):Prop where
 G:cC n.ins.length n.cq
 S:S.length<=1000000
 v0:0<=v
 v1:v < 2+n.ins.length+n.cq.length
@[reducible] noncomputable def PR (k:Nat):nU where
 α:=ahy
 args x:=[.i .i64 (λ_=>x.v),.ptr 0 0,.ptr 1 0,.ptr 3 0,.ptr 5 0,.ptr 6 0]
 io x:=XJ x.n x.S x.st
 pre x:=Js x.n x.S x.v/\x.v.toNat<=k
 β:=ViR
 post x y:=mC x.n.ins.length x.n.cq x.S x.st x.v y.res y.st
 mv:=[]
 res x y:=.b (λ_=>y.res)
 ld x y:=XJ x.n x.S y.st
theorem acI {n:Net} {v:Int} {g:Gate} (h:pT n v=(g,true)):gI n.ins.length n.cq v.toNat=some g/\g.op≠7:=by
 unfold pT at h
 cases hg:gI n.ins.length n.cq v.toNat with
 | none=>rw [hg] at h;cases h
 | some g' =>
  rw [hg] at h
  simp only at h
  split at h
  ·cases h
  ·cases h;exact ⟨rfl,by assumption⟩
theorem adX {n:Net} {v:Int} {g:Gate} (h:pT n v=(g,false)):∀g',gI n.ins.length n.cq v.toNat=some g'->g'.op=7:=λg' hg=>by
 unfold pT at h
 rw [hg] at h
 simp only at h
 split at h
 ·assumption
 ·cases h
noncomputable def cVi (n m:Nat):Ctx:=cW n m [(262,Tryz.f262)] [(263,IS),(243,Oc),(264,Xw)] [262]
theorem WM (n m:Nat):CB PP (cVi n m):=cZ n m ⟨fo Tryz.func262,trivial⟩ ⟨MM,Vr,afH,trivial⟩
theorem UT (k:Nat) (ih:∀m,m+1=k->l5 PP 262 (PR m)):l5 PP 262 (PR k):=by
 refine qZ (WM 0 0) (fo Tryz.func262) (λa y=>rfl) (λa=>⟨rfl,rfl⟩) .nil ?_
 rintro ⟨⟨ins,gs,outs,dr⟩,S,⟨Is,Rs⟩,v⟩ hx
 obtain ⟨⟨G,hS,jH,rf⟩,hvk⟩:Js ⟨ins,gs,outs,dr⟩ S v/\v.toNat<=k:=hx
 have G:cC ins.length gs:=G
 have hS:S.length<=1000000:=hS
 have rf:v < 2+(ins.length:Int)+gs.length:=rf
 have hb:=G.mK
 have uZ:S.length<=1000000000000:=by omega
 obtain ⟨g,b,vg⟩:∃g b,pT ⟨ins,gs,outs,dr⟩ v=(g,b):=⟨_,_,rfl⟩
 have tI:ins.length<=1000/\gs.length<=1000/\0<=v/\v < vN ⟨ins,gs,outs,dr⟩/\pT ⟨ins,gs,outs,dr⟩ v=(g,b):=⟨by omega,by omega,jH,rf,vg⟩
 obtain ⟨O,hO⟩:∃O,cH g=O:=⟨_,rfl⟩
 have ZO:O.length<=3:=by rw [<-hO];exact (vI g).2
 have XK:(λj=>if j=v then some () else Rs j)=(ma.mk Is (xY Rs v)).rch:=rfl
 have XL:(λj=>if j=v then some () else Is j)=(ma.mk (xY Is v) Rs).ins:=rfl
 obtain ⟨Ra,ZP⟩:∃Ra,xY Rs v=Ra:=⟨_,rfl⟩
 obtain ⟨Ia,ZQ⟩:∃Ia,xY Is v=Ia:=⟨_,rfl⟩
 have XK:(λj=>if j=v then some () else Rs j)=Ra:=ZP
 have XL:(λj=>if j=v then some () else Is j)=Ia:=ZQ
 refine ⟨?_⟩
 cbv
 refine ⟨⟨S,v⟩,⟨by exact a8,uZ⟩,?_⟩
 cbv
 refine ⟨λh=>?_,λh=>?_⟩
 ·have hm:v∈S:=by have h':S.contains v=true:=h.out;simpa using h'
  have di:mC ins.length gs S ⟨Is,Rs⟩ v true ⟨Is,Ra⟩:=ZP ▸ mC.leaf jH hm
  cbv
  refine ⟨(),⟨by exact a8⟩,?_⟩
  cbv
  exact ⟨⟨true,⟨Is,Ra⟩⟩,[],[],⟨by exact e9,trivial⟩,by have q8:=XK;exact bq,⟨di⟩⟩
 have hm:v∉S:=by have h':S.contains v=false:=h.out;simpa using h'
 clear h
 cbv
 refine ⟨λh=>?_,λh=>?_⟩
 ·have aP:v < 2:=aG
  have di:mC ins.length gs S ⟨Is,Rs⟩ v true ⟨Is,Rs⟩:=.known hm (.inl aP)
  cbv
  exact ⟨⟨true,⟨Is,Rs⟩⟩,[],[],⟨by exact e9,trivial⟩,by exact aW,⟨di⟩⟩
 have bV:2<=v:=aG
 clear h
 cbv
 refine ⟨none,⟨rfl,λ_=>rfl⟩,?_⟩
 cbv
 refine ⟨λh=>?_,λh=>?_⟩
 ·have dw:(Is v).isSome=true:=h.out
  have di:mC ins.length gs S ⟨Is,Rs⟩ v true ⟨Is,Rs⟩:=.known hm (.inr dw)
  cbv
  exact ⟨⟨true,⟨Is,Rs⟩⟩,[],[],⟨by exact e9,trivial⟩,by exact aW,⟨di⟩⟩
 clear h
 cbv
 refine ⟨⟨⟨ins,gs,outs,dr⟩,v,g,b⟩,⟨by exact a8,tI⟩,?_⟩
 cbv
 refine ⟨λh=>?_,λh=>?_⟩
 ·have PS:b=false:=by have h':(!b)=true:=h.out;simpa using h'
  subst PS
  have di:mC ins.length gs S ⟨Is,Rs⟩ v false ⟨Is,Rs⟩:=.bad bV hm (adX vg)
  cbv
  exact ⟨⟨false,⟨Is,Rs⟩⟩,[],[],⟨by exact e9,trivial⟩,by exact aW,⟨di⟩⟩
 have rh:b=true:=by have h':(!b)=false:=h.out;simpa using h'
 subst rh
 obtain ⟨hg,h7⟩:=acI vg
 have hg:gI ins.length gs v.toNat=some g:=hg
 have ym:qR ins.length gs S ⟨Is,Rs⟩ v O 0 ⟨Ia,Rs⟩:=ZQ ▸ qR.start bV hm O
 have CZ:((v.toNat:Nat):Int)∉S:=by rw [Int.toNat_of_nonneg jH];exact hm
 have CS:∀x∈O,x∈sD ins.length gs S v.toNat:=λx hx=>qL.2 ⟨CZ,g,hg,h7,by rw [hO];exact hx⟩
 have tT:∀x∈O,0<=x/\x < v:=λx hx=>by have:=Eu G (CS x hx);omega
 refine (⟨k - 1,by omega⟩:∃m,m+1=k).elim λm oU=>?_
 have ih:=ih m oU
 clear h
 cbv
 refine ⟨(),⟨by exact a8⟩,?_⟩
 cbv
 refine ⟨⟨g,O⟩,⟨by exact a8,hO⟩,?_⟩
 cbv
 refine Sat.dP (WM 0 0) 8 6 [] (λy:Nat × ma=>[(37,.sl 1 bJ (λ_=>O)),(38,.i .i64 (λ_=>(O.length:Int))),(39,.i .i64 (λ_=>(y.1:Int)))]) (λy=>[(2,.map (.int .i64) Fj (λ_=>y.2.rch)),(4,.map (.int .i64) Fj (λ_=>y.2.ins))]) (λy=>qR ins.length gs S ⟨Is,Rs⟩ v O y.1 y.2) (λy=>O.length - y.1) (0,⟨Ia,Rs⟩) (by exact aW) (by have q8:=XL;exact bq) ym ?_
 rintro ⟨j,⟨I2,R2⟩⟩ hJ
 have hJ:qR ins.length gs S ⟨Is,Rs⟩ v O j ⟨I2,R2⟩:=hJ
 have ei:=hJ.le
 have jg:=n0 j
 have lg:=eh (i:=j) (by omega)
 cbv
 refine ⟨λh=>?_,λh=>?_⟩
 rotate_left
 ·have Jt:O.length<=j:=aG
  have di:=hJ.fin Jt hm hg h7 hO.symm
  cbv
  exact ⟨⟨true,⟨I2,R2⟩⟩,[],[],⟨by exact e9,trivial⟩,by exact aW,⟨di⟩⟩
 have Fk:j < O.length:=aG
 have cf:O.length - (j+1) < O.length - j:=by omega
 refine (cg Fk).elim λx hx=>?_
 have F7:=cM hx
 have j4:=tT x F7
 have dR:Js ⟨ins,gs,outs,dr⟩ S x/\x.toNat<=m:=⟨⟨G,hS,j4.1,Int.lt_trans j4.2 rf⟩,by have:=j4.1;have:=j4.2;omega⟩
 have Kc:=CS x F7
 clear h
 cbv
 refine ⟨x,⟨jg,hx⟩,?_⟩
 cbv
 refine iW.tP ih (λa y=>trivial) ⟨⟨ins,gs,outs,dr⟩,S,⟨I2,R2⟩,x⟩ [0,1,2,3,4,5,6] rfl (by exact a8) (by exact aW) ⟨dR⟩ λy hy=>?_
 obtain ⟨res,⟨I3,R3⟩⟩:=y
 have hy:mC ins.length gs S ⟨I2,R2⟩ x res ⟨I3,R3⟩:=hy.out
 cbv
 refine ⟨λh=>?_,λh=>?_⟩
 ·have hr:res=false:=by have h':(!res)=true:=h.out;simpa using h'
  subst hr
  have di:=hJ.fail Kc hy
  cbv
  exact ⟨⟨false,⟨I3,R3⟩⟩,[],[],⟨by exact e9,trivial⟩,by exact aW,⟨di⟩⟩
 ·have hr:res=true:=by have h':(!res)=false:=h.out;simpa using h'
  subst hr
  have cb:=hJ.step hx Kc hy
  cbv
  exact ⟨(j+1,⟨I3,R3⟩),by have bK:=lg;exact bq,by exact aW,⟨⟨cb,cf⟩⟩⟩
theorem WN:∀k,l5 PP 262 (PR k)
 | 0=>UT 0 λm h=>by omega
 | k+1=>UT (k+1) λm h=>by
  cases Nat.succ.inj h
  exact WN k
structure se (root:Int) (S:List Int) (i:Nat):Prop where
 le:i<=S.length
 mem:∀x∈S.take i,2<=x/\x<=root
 inc:gd (S.take i)
theorem se.start (root:Int) (S:List Int):se root S 0:=⟨cI _,by simp,by simp⟩
theorem se.step {root:Int} {S:List Int} {i:Nat} {x:Int} (h:se root S i) (hx:S[i]?=some x) (h1:2<=x) (h2:x<=root) (h3:∀p,0 < i->S[i - 1]?=some p->p < x):se root S (i+1):=by
 refine ⟨(bf.1 hx).1,λy hy=>?_,?_⟩
 ·rw [iT,hx] at hy
  rcases eF.1 hy with hy|hy
  ·exact h.mem y hy
  ·simp at hy;subst hy;exact ⟨h1,h2⟩
 ·rw [iT,hx,mW]
  refine ko.2 ⟨h.inc,by simp,λy hy z hz=>?_⟩
  simp at hz;subst hz
  have hi:0 < i:=by
   rcases y6 i with rfl|hi
   ·simp at hy
   ·exact hi
  have aP:=(bf.1 hx).1
  obtain ⟨p,hp⟩:∃p,S[i - 1]?=some p:=⟨_,eG (by omega)⟩
  have JO:=h3 p hi hp
  have jX:=h.inc
  rw [show i=(i - 1)+1 by omega,iT,hp,mW] at jX hy
  rcases eF.1 hy with hy|hy
  ·have:=(ko.1 jX).2.2 y hy p (by simp);omega
  ·simp at hy;omega
theorem se.fin {N root:Int} {S:List Int} {i:Nat} (h:se root S i) (hi:S.length<=i) (h1:2<=root) (h2:root < N) (h3:S.length<=4):pP N root S=true:=by
 have e:S.take i=S:=iM hi
 have a:=h.mem
 have b:=h.inc
 rw [e] at a b
 exact yP.2 ⟨h1,h2,h3,a,b⟩
theorem Ef {N root:Int} {S:List Int} (h:¬Ev N root S):pP N root S=false:=by
 cases hb:pP N root S with
 | false=>rfl
 | true=>exact absurd (yP.1 hb) h
theorem UU {N root:Int} {S:List Int} {i:Nat} {x:Int} (hx:S[i]?=some x) (h:x < 2\/root < x):pP N root S=false:=Ef λL=>by
 have:=L.mem x (cM hx);omega
theorem ae1 {N root:Int} {S:List Int} {i:Nat} {x p:Int} (hi:0 < i) (hx:S[i]?=some x) (hp:S[i - 1]?=some p) (h:x<=p):pP N root S=false:=Ef λL=>by
 obtain ⟨h1,e1⟩:=bf.1 hx
 obtain ⟨h2,e2⟩:=bf.1 hp
 have:=qC.1 L.inc (i - 1) i h2 h1 (by omega)
 omega
theorem ae2 {l m:List Int} (hm:gd m) (hn:l.Nodup) (h:∀u,u∈l↔u∈m):qa l=m:=by
 have hp:(qa l).Perm l:=List.mergeSort_perm l _
 have hs:(qa l).Pairwise (·<=·):=by
  have:=Sk (le:=λx y:Int=>decide (x<=y)) (λa b c h1 h2=>by simp only [decide_eq_true_eq] at *;omega) (λa b=>by simp only [nM,decide_eq_true_eq];omega) l
  unfold qa
  simpa using this
 have ff:(qa l).Nodup:=hp.nodup_iff.2 hn
 have hi:gd (qa l):=(Ll.2 ⟨hs,ff⟩).imp λ⟨a,b⟩=>by omega
 exact hi.ext hm λu=>hp.mem_iff.trans (h u)
structure af3 (S:List Int) (rch:Int->Option Unit) (ks:List Int):Prop where
 nd:ks.Nodup
 mem:∀n,n∈ks↔(rch n).isSome=true
theorem af4 {S:List Int} {rch:Int->Option Unit} (hS:S.Nodup) (h:∀u,(rch u).isSome=true->u∈S):af3 S rch (S.filter λx=>(rch x).isSome) :=
 ⟨hS.filter _,λn=>by rw [lx];exact ⟨λa=>a.2,λa=>⟨h n a,a⟩⟩⟩
theorem filter_lt {A:Type} {f:A->Bool}:∀{l:List A},(l.filter f).length < l.length->∃x∈l,f x=false
 | [],h=>by simp at h
 | x :: l,h=>by
  cases hf:f x with
  | false=>exact ⟨x,by simp,hf⟩
  | true =>
   rw [Lh hf,mY,mY] at h
   obtain ⟨y,hy,e⟩:=filter_lt (Nat.lt_of_succ_lt_succ h)
   exact ⟨y,by simp [hy],e⟩
theorem acJ {A:Type} {f:A->Bool} {l:List A} (h:l.length<=(l.filter f).length):∀x∈l,f x=true:=by
 have:=List.Sublist.eq_of_length_le (List.filter_sublist (p:=f) (l:=l)) h
 intro x hx
 rw [<-this] at hx
 exact (lx.1 hx).2
structure ajc where
 n:Net
 root:Int
 S:List Int
 out:Option (List Int)
structure Ju (n:Net) (root:Int) (S:List Int) (out:Option (List Int)):Prop where
 G:cC n.ins.length n.cq
 gY:S.length<=1000000
 eq:iD n.ins.length n.cq root S=out
@[reducible] noncomputable def XM:Vc.Spec where
 α:=ajc
 args x:=[.agg (oj x.n),.i .i64 (λ_=>x.root),.sl 1 bJ (λ_=>x.S)]
 pre x:=Ju x.n x.root x.S x.out
 res x:=match x.out with
  | some l=>.cd [.sl 1 bJ (λ_=>l),.bc true]
  | none=>.cd [.cG,.bc false]
noncomputable def ajd (n m:Nat):Ctx:=cW n m [] []
theorem af5 (n m:Nat):CB PP (ajd n m):=cZ n m trivial trivial
noncomputable def aje (n m:Nat):Ctx:=cW n m [(262,Tryz.f262),(265,Tryz.f265)] [(261,Xv)] [262,265] [] [15]
theorem M9 (n m:Nat):CB PP (aje n m):=cZ n m ⟨fo Tryz.func262,fo Tryz.func265,trivial⟩ ⟨afG,trivial⟩
theorem af6:cY (PP ()) 241 XM:=by
 refine e6 (M9 0 0) (fo Tryz.func241) (λa=>⟨rQ a.n,trivial,λx=>(dq x).1,trivial⟩) (λa=>by rcases a with ⟨n,r,S,_|l⟩<;>first|exact ⟨trivial,trivial,trivial⟩|exact ⟨λx=>(dq x).1,trivial,trivial⟩) ?_
 rintro ⟨⟨ins,gs,outs,dr⟩,root,S,out⟩ hx
 obtain ⟨G,hS,di⟩:Ju ⟨ins,gs,outs,dr⟩ root S out:=hx
 have G:cC ins.length gs:=G
 have di:iD ins.length gs root S=out:=di
 have hb:=G.mK
 have tI:ins.length<=1000/\gs.length<=1000:=by omega
 obtain ⟨N,hN⟩:∃N:Int,vN ⟨ins,gs,outs,dr⟩=N:=⟨_,rfl⟩
 have ZR:N=2+(ins.length:Int)+gs.length:=hN.symm
 have hNi:∀r:Int,r < N->r < 2+(ins.length:Int)+gs.length:=λr h=>by omega
 have hN6:∀r:Int,r < N->r < 600:=λr h=>by omega
 have hNe:∀R S,pP N R S=true->pP (2+(ins.length:Int)+gs.length) R S=true:=λR S h=>by rw [<-ZR];exact h
 have dC:pP N root S=false->out=none:=λh=>by rw [ZR] at h;rw [<-di];exact aaW h
 refine ⟨?_⟩
 cbv
 refine ⟨λh=>?_,λh=>?_⟩
 ·have gS:root < 2:=aG
  obtain rfl:=dC (Ef λL=>by have:=L.lo;omega)
  cbv
  exact ⟨by exact a8⟩
 have gS:2<=root:=aG
 clear h
 cbv
 refine ⟨⟨ins,gs,outs,dr⟩,⟨by exact a8,tI⟩,?_⟩
 cbv
 refine ⟨λh=>?_,λh=>?_⟩
 ·have jE:vN ⟨ins,gs,outs,dr⟩<=root:=aG
  obtain rfl:=dC (Ef λL=>by have:=L.hi;omega)
  cbv
  exact ⟨by exact a8⟩
 have jE:root < vN ⟨ins,gs,outs,dr⟩:=aG
 have jE:root < N:=by omega
 clear h
 cbv
 refine ⟨λh=>?_,λh=>?_⟩
 ·have h4:(4:Int) < (S.length:Int):=aG
  have h4:4 < S.length:=by exact sC
  obtain rfl:=dC (Ef λL=>by have:=L.len;omega)
  cbv
  exact ⟨by exact a8⟩
 have h4:(S.length:Int)<=4:=aG
 have h4:S.length<=4:=by exact sC
 have ym:=se.start root S
 clear h
 cbv
 refine Sat.dP (M9 0 0) 2 8 [] (λi:Nat=>[(28,.sl 1 bJ (λ_=>S)),(29,.i .i64 (λ_=>(S.length:Int))),(30,.i .i64 (λ_=>(i:Int)))]) (λ_=>[]) (λi=>se root S i) (λi=>S.length - i) 0 (by exact aW) (by exact aW) ym ?_
 intro i hJ
 have hJ:se root S i:=hJ
 have bO:=hJ.le
 have dv:=n0 i
 have eW:=eh (i:=i) (by omega)
 cbv
 refine ⟨λh=>?_,λh=>?_⟩
 ·have wE:i < S.length:=aG
  have cf:S.length - (i+1) < S.length - i:=by omega
  refine (cg wE).elim λx hx=>?_
  clear h
  cbv
  refine ⟨x,⟨dv,hx⟩,?_⟩
  cbv
  refine ⟨λh=>?_,λh=>?_⟩
  ·have om:x < 2:=aG
   obtain rfl:=dC (UU hx (.inl om))
   cbv
   exact ⟨by exact a8⟩
  have om:2<=x:=aG
  clear h
  cbv
  refine ⟨λh=>?_,λh=>?_⟩
  ·have Kd:root < x:=aG
   obtain rfl:=dC (UU hx (.inr Kd))
   cbv
   exact ⟨by exact a8⟩
  have Kd:x<=root:=aG
  clear h
  cbv
  refine ⟨λh=>?_,λh=>?_⟩
  ·have PT:(0:Int) < (i:Int):=aG
   have PT:0 < i:=by exact sC
   refine (cg (l:=S) (i:=i - 1) (by omega)).elim λp hp=>?_
   have ZF:IntKind.i64.wrap ((i:Int) - 1)=((i - 1:Nat):Int):=by rw [dV (by omega) (by omega)];omega
   have hpn:0<=IntKind.i64.wrap ((i:Int) - 1)/\S[(IntKind.i64.wrap ((i:Int) - 1)).toNat]?=some p:=by rw [ZF];exact ⟨n0 _,hp⟩
   clear h
   cbv
   refine ⟨p,⟨hpn⟩,?_⟩
   cbv
   refine ⟨λh=>?_,λh=>?_⟩
   ·have PU:x<=p:=aG
    obtain rfl:=dC (ae1 PT hx hp PU)
    cbv
    exact ⟨by exact a8⟩
   ·have PU:p < x:=aG
    have fv:se root S (i+1)/\S.length - (i+1) < S.length - i:=⟨hJ.step hx om Kd λq _ hq=>by rw [hp] at hq;cases hq;exact PU,cf⟩
    cbv
    exact ⟨i+1,by have bK:=eW;exact bq,by exact aW,⟨fv⟩⟩
  ·have PT:(i:Int)<=0:=aG
   have fv:se root S (i+1)/\S.length - (i+1) < S.length - i:=⟨hJ.step hx om Kd λq hq _=>by exfalso;exact sC,cf⟩
   cbv
   exact ⟨i+1,by have bK:=eW;exact bq,by exact aW,⟨fv⟩⟩
 have bV:S.length<=i:=aG
 have yn:pP (2+(ins.length:Int)+gs.length) root S=true:=hNe _ _ (hJ.fin bV gS jE h4)
 have yk:S.Nodup:=(yP.1 yn).inc.nodup
 have hSm:=(yP.1 yn).mem
 have hvi:Js ⟨ins,gs,outs,dr⟩ S root/\root.toNat<=root.toNat:=⟨⟨G,hS,wY (by decide) gS,hNi root jE⟩,fN _⟩
 clear h
 cbv
 refine iW.tP (WN root.toNat) (λa y=>trivial) ⟨⟨ins,gs,outs,dr⟩,S,⟨λ_=>none,λ_=>none⟩,root⟩ [1,5,3,4,2,0,6] rfl (by exact a8) (by exact aW) ⟨hvi⟩ λy hy=>?_
 obtain ⟨res,⟨Is,Rs⟩⟩:=y
 have hy:mC ins.length gs S ⟨λ_=>none,λ_=>none⟩ root res ⟨Is,Rs⟩:=hy.out
 cbv
 refine ⟨λh=>?_,λh=>?_⟩
 ·have hr:res=false:=by have h':(!res)=true:=h.out;simpa using h'
  subst hr
  obtain ⟨w,nt,qj⟩:=hy.no rfl
  obtain rfl:out=none:=by rw [<-di];exact adw G nt qj
  cbv
  exact ⟨by exact a8⟩
 have hr:res=true:=by have h':(!res)=false:=h.out;simpa using h'
 subst hr
 have hC:=IN.of G gS hy
 have uV:=af4 (rch:=Rs) yk (λu hu=>((hC.rch u).1 hu).2.2)
 have aP:=@filter_lt _ (λx=>(Rs x).isSome) S
 have bV:=@acJ _ (λx=>(Rs x).isSome) S
 obtain ⟨ks,hk⟩:∃ks,S.filter (λx=>(Rs x).isSome)=ks:=⟨_,rfl⟩
 rw [hk] at uV aP bV
 have Ny:∀x∈S,(Rs x).isSome=false->out=none:=λx hx hf=>by
  rw [<-di]
  refine acs G hx λhr=>?_
  have:=(hC.rch x).2 ⟨by have:=hSm x hx;omega,hr,hx⟩
  rw [hf] at this;cases this
 have e7:(∀x∈S,(Rs x).isSome=true)->∃l,out=some l/\gd l/\∀u:Int,u∈l↔(Is u).isSome=true:=λha=>by
  obtain ⟨l,h1,h2,h3⟩:=acu G yn hC λx hx=>((hC.rch x).1 (ha x hx)).2.1
  exact ⟨l,by rw [<-di];exact h1,h2,h3⟩
 have hkn:ks.Nodup/\∀n,n∈ks↔(Rs n).isSome=true:=⟨uV.nd,uV.mem⟩
 clear h
 cbv
 refine ⟨ks,⟨hkn⟩,?_⟩
 cbv
 refine ⟨λh=>?_,λh=>?_⟩
 ·have hl:ks.length < S.length:=aG
  obtain ⟨x,hx,hf⟩:=aP hl
  obtain rfl:=Ny x hx hf
  cbv
  exact ⟨by exact a8⟩
 have hl:S.length<=ks.length:=aG
 obtain ⟨l,rfl,C0,F8⟩:=e7 (bV hl)
 clear h
 cbv
 refine Sat.freeze 2 rfl rfl ?_
 refine Sat.j8 (af5 0 0) ?_
 cbv
 refine Sat.zF 13 3 1 zr dq rfl ?_
 cbv
 have hlen:l.length<=1000000:=by
  have h1:l.length<=(List.range (root.toNat+1)).length:=by
   have h2:(l.map Int.toNat).Nodup:=by
    refine (pM.2 ((Ll.2 ⟨C0,Sa (r:=λa b=>0<=a/\0<=b) λa ha b hb=>?_⟩).imp λ⟨a,b⟩=>by omega))
    have h3:=((hC.ins a).1 ((F8 a).1 ha)).1
    have h4:=((hC.ins b).1 ((F8 b).1 hb)).1
    omega
   have:=Bm h2 (l₂:=List.range (root.toNat+1)) λw hw=>by
    obtain ⟨u,hu,rfl⟩:=jw.1 hw
    have h3:=((hC.ins u).1 ((F8 u).1 hu)).2.1
    have:=gF.le G h3
    exact mr.2 (by omega)
   rwa [jQ] at this
  rw [Hk] at h1
  have:=hN6 root jE
  omega
 refine Sat.dP (M9 0 0) 9 8 [(.t 13,8)] (λ_:List Int=>[(13,.own 8),(71,.ptr 7 0)]) (λsn=>[(7,.iter (.int .i64) Fj (λ_=>Is) (λ_=>sn) none),(8,.dyn 3 1 bJ (λ_=>sn))]) (λsn=>(∀n∈sn,n∈l)/\sn.Nodup) (λsn=>l.length - sn.length) [] (by exact aW) (by exact aW) ⟨λn hn=>(by cases hn),xe⟩ ?_
 rintro sn ⟨yl,AD⟩
 have yl:∀n∈sn,n∈l:=yl
 have AD:sn.Nodup:=AD
 have gz:sn.length<=l.length:=Bm AD yl
 cbv
 refine ⟨λh=>?_,λn t h=>?_⟩
 ·have hov:∀n t,Is n=some t->n∈sn:=h.out
  have hsm:qa sn=l:=ae2 C0 AD λu=>⟨yl u,λhu=>by
   have:=(F8 u).1 hu
   cases hq:Is u with
   | none=>rw [hq] at this;cases this
   | some t=>exact hov u t hq⟩
  have wm:sn.length < 4611686018427387904:=by omega
  clear h
  cbv
  refine iW.tP M4 (λa y=>trivial) sn [8] rfl (by exact a8) (by exact aW) ⟨wm⟩ λy _=>?_
  cbv
  exact ⟨by have iJ:=hsm;exact bM⟩
 ·obtain ⟨g1,g2⟩:Is n=some t/\n∉sn:=h.out
  have x5:n∈l:=(F8 n).2 (by rw [g1];rfl)
  have ff:(sn++[n]).Nodup:=Hj.2 ⟨AD,by simp,λa ha b hb e=>by simp at hb;subst hb;subst e;exact g2 ha⟩
  have ZS:∀q∈sn++[n],q∈l:=λq hq=>by
   rcases eF.1 hq with hq|hq
   ·exact yl q hq
   ·simp at hq;subst hq;exact x5
  have k8:(sn++[n]).length<=l.length:=Bm ff ZS
  have JH:(sn++[n]).length=sn.length+1:=by simp
  have b1:(sn.length+1)*8<=140737488355328:=by omega
  have b2:sn.length+1<=9223372036854775807:=by omega
  have fv:((∀q∈sn++[n],q∈l)/\(sn++[n]).Nodup)/\l.length - (sn++[n]).length < l.length - sn.length:=⟨⟨ZS,ff⟩,by omega⟩
  clear h
  cbv
  refine ⟨[n],⟨by exact a8,b1,b2⟩,?_⟩
  cbv
  exact ⟨sn++[n],by exact aW,by exact bq,⟨fv⟩⟩
theorem acK {o A B C A' B' C':Int} (hA:A=A') (hB:2<=kq o->B=B') (hC:3<=kq o->C=C'):combineM o A B C=combineM o A' B' C':=by
 subst hA
 unfold kq at hB hC
 unfold combineM
 by_cases h1:o=1
 ·rw [if_pos h1,if_pos h1]
 ·rw [if_neg h1,if_neg h1]
  rw [if_neg h1] at hB hC
  by_cases h2:o=2\/o=3\/o=4
  ·rw [if_pos h2] at hB
   rw [hB (fN _)]
   rcases h2 with h|h|h<;>subst h<;>simp
  ·rw [if_neg h2] at hB hC
   rw [hB (by omega),hC (by omega)]
theorem adY {I:Nat} {gs:List Gate} {S:List Int} (hn:S.Nodup) {i:Nat} {x:Int} (hx:S[i]?=some x) (h0:0<=x):kZ I gs S x.toNat=ux i:=by
 obtain ⟨aP,Pd⟩:=bf.1 hx
 have h:S.findIdx? (λy=>decide (y=((x.toNat:Nat):Int)))=some i:=by
  rw [DU]
  refine ⟨aP,by rw [Pd];simp;omega,λj hj=>?_⟩
  have:=qC.1 hn j i (by omega) aP hj
  simp only [Bool.not_eq_true,decide_eq_false_iff_not]
  rw [Int.toNat_of_nonneg h0,<-Pd];exact this
 rw [HR]
 unfold BX
 rw [h]
theorem VG {S:List Int} {v:Nat} (h:(v:Int)∉S):S.findIdx? (λy=>decide (y=(v:Int)))=none:=by
 rw [Bp]
 intro x hx
 exact decide_eq_false λe=>h (e ▸ hx)
theorem ahz {I:Nat} {gs:List Gate} {S:List Int} (h:∀x∈S,2<=x):kZ I gs S 0=0:=by
 rw [HR];unfold BX
 have hg:gI I gs 0=none:=by unfold gI;rw [if_pos (by omega)]
 rw [VG λhm=>by have:=h _ hm;omega]
 simp only [hg]
 rfl
theorem ahA {I:Nat} {gs:List Gate} {S:List Int} (h:∀x∈S,2<=x):kZ I gs S 1=-1:=by
 rw [HR];unfold BX
 rw [VG λhm=>by have:=h _ hm;omega]
 rfl
def uO (m:Int->Option Int) (v t:Int):Int->Option Int:=λj=>if j=v then some t else m j
theorem UW (m:Int->Option Int) (v t:Int):uO m v t v=some t:=by unfold uO;rw [if_pos rfl]
theorem BE {m:Int->Option Int} {v t u:Int} (h:u≠v):uO m v t u=m u:=by unfold uO;rw [if_neg h]
structure AE (S:List Int) (j:Nat) (m:Int->Option Int):Prop where
 le:j<=S.length
 zero:m 0=some 0
 one:m 1=some (-1)
 leaf:∀i x,i < j->S[i]?=some x->m x=some (ux i)
theorem AE.step {S:List Int} {j:Nat} {m:Int->Option Int} (h:AE S j m) (hn:S.Nodup) (h2:∀x∈S,2<=x) {x:Int} (hx:S[j]?=some x):AE S (j+1) (uO m x (ux j)):=by
 have om:=h2 x (cM hx)
 obtain ⟨aP,iz⟩:=bf.1 hx
 refine ⟨aP,by rw [BE (by omega)];exact h.zero,by rw [BE (by omega)];exact h.one,λi y hi hy=>?_⟩
 by_cases e:i=j
 ·subst e;rw [hx] at hy;cases hy;exact UW _ _ _
 ·obtain ⟨bO,hyi⟩:=bf.1 hy
  have:=qC.1 hn i j bO aP (by omega)
  rw [BE (by rw [<-hyi,<-iz];exact this)]
  exact h.leaf i y (by omega) hy
structure wH (I:Nat) (gs:List Gate) (S l:List Int) (i:Nat) (m:Int->Option Int):Prop where
 le:i<=l.length
 lo:∀u:Int,0<=u->u < 2->m u=some (kZ I gs S u.toNat)
 leaf:∀u∈S,m u=some (kZ I gs S u.toNat)
 nd:∀u∈l.take i,m u=some (kZ I gs S u.toNat)
theorem AE.fin {I:Nat} {gs:List Gate} {S:List Int} {j:Nat} {m:Int->Option Int} (h:AE S j m) (hj:S.length<=j) (hn:S.Nodup) (h2:∀x∈S,2<=x) (l:List Int):wH I gs S l 0 m:=by
 refine ⟨cI _,λu h0 h1=>?_,λu hu=>?_,by simp⟩
 ·rcases (by omega:u=0\/u=1) with rfl|rfl
  ·rw [h.zero];exact congrArg some (ahz h2).symm
  ·rw [h.one];exact congrArg some (ahA h2).symm
 ·obtain ⟨i,hi⟩:=qG hu
  rw [h.leaf i u (by have:=(bf.1 hi).1;omega) hi,adY hn hi (by have:=h2 u hu;omega)]
theorem wH.step {I:Nat} {gs:List Gate} {S l:List Int} {i:Nat} {m:Int->Option Int} (h:wH I gs S l i m) {v:Int} (hv:l[i]?=some v) (h2:2<=v) (hm:v∉S):wH I gs S l (i+1) (uO m v (kZ I gs S v.toNat)):=by
 refine ⟨(bf.1 hv).1,λu h0 h1=>by rw [BE (by omega)];exact h.lo u h0 h1,λu hu=>by rw [BE λe=>hm (by rw [<-e];exact hu)];exact h.leaf u hu,λu hu=>?_⟩
 by_cases e:u=v
 ·subst e;exact UW _ _ _
 ·rw [BE e]
  rw [iT,hv] at hu
  rcases eF.1 hu with hu|hu
  ·exact h.nd u hu
  ·simp at hu;exact absurd hu e
theorem wH.op {I:Nat} {gs:List Gate} (G:cC I gs) {S l:List Int} {root:Int} (hc:iD I gs root S=some l) {i:Nat} {m:Int->Option Int} (h:wH I gs S l i m) {v:Int} (hv:l[i]?=some v) {g:Gate} (hg:gI I gs v.toNat=some g) (h7:g.op≠7) {o:Int} (ho:o∈cH g):m o=some (kZ I gs S o.toNat):=by
 obtain ⟨jX,fP⟩:=DT G hc
 obtain ⟨wA,Ke,CZ⟩:=(fP v).1 (cM hv)
 have PV:((v.toNat:Nat):Int)=v:=Int.toNat_of_nonneg (by omega)
 have ZT:o∈sD I gs S v.toNat:=qL.2 ⟨by rw [PV];exact CZ,g,hg,h7,ho⟩
 have aP:=Eu G ZT
 by_cases h1:o < 2
 ·exact h.lo o aP.1 h1
 ·by_cases h2:o∈S
  ·exact h.leaf o h2
  ·have FG:o∈l:=(fP o).2 ⟨by omega,.step Ke ZT,h2⟩
   obtain ⟨j,hj⟩:=qG FG
   obtain ⟨ei,sr⟩:=bf.1 hj
   obtain ⟨bO,l7⟩:=bf.1 hv
   have ra:j < i:=by
    rcases Lv j i with q|q|q
    ·exact q
    ·subst q;rw [sr] at l7;omega
    ·have:=qC.1 jX i j bO ei q;omega
   refine h.nd o (cM (i:=j) ?_)
   rw [kR,if_pos ra];exact hj
theorem KY {I:Nat} {gs:List Gate} {S l:List Int} {root:Int} (h:iD I gs root S=some l):Ev (2+I+gs.length) root S:=by
 unfold iD at h
 split at h
 ·exact yP.1 (by assumption)
 ·cases h
theorem acL {I:Nat} {gs:List Gate} (G:cC I gs) {S l:List Int} {root:Int} (h:iD I gs root S=some l):root∈S\/root∈l:=by
 have hL:=KY h
 by_cases hm:root∈S
 ·exact .inl hm
 ·exact .inr (((DT G h).2 root).2 ⟨hL.lo,.base rfl,hm⟩)
theorem ahB (g:Gate):g.a∈cH g:=by unfold cH kq;split<;>(try split)<;>simp
theorem ahC {g:Gate} (h:2<=kq g.op):g.b∈cH g:=by
 unfold cH kq at *
 split at h
 ·omega
 ·split at h<;>simp_all
theorem ahD {g:Gate} (h:3<=kq g.op):g.c∈cH g:=by
 unfold cH kq at *
 split at h
 ·omega
 ·split at h
  ·omega
  ·simp_all
theorem adZ {I:Nat} {gs:List Gate} (G:cC I gs) {S l:List Int} {root:Int} (h:iD I gs root S=some l):l.length<=600:=by
 have hL:=KY h
 have hb:=G.mK
 have h1:=hL.lo
 have h2:=hL.hi
 unfold iD at h
 split at h
 ·simp only at h
  split at h
  ·cases h
   rw [jQ]
   refine na (Dy _ _) ?_
   rw [Hk];omega
  ·cases h
 ·cases h
theorem acM {I:Nat} {gs:List Gate} (G:cC I gs) {S l:List Int} {root:Int} (h:iD I gs root S=some l) {v:Int} (hv:v∈l):∃g,gI I gs v.toNat=some g/\g.op≠7:=by
 obtain ⟨h2,hr,hS⟩:=((DT G h).2 v).1 hv
 have PV:((v.toNat:Nat):Int)=v:=Int.toNat_of_nonneg (by omega)
 unfold iD at h
 split at h
 ·simp only at h
  split at h
  ·rename_i e7
   simp only [b9] at e7
   have:=gE.1 e7.1 v.toNat (mr.2 (by have:=gF.le G hr;omega))
   rw [(sX G).2 hr] at this
   rcases yZ.1 (by simpa using this) with q|q|q
   ·rw [PV] at q;exact absurd q hS
   ·omega
   ·exact q
  ·cases h
 ·cases h
structure ajf where
 n:Net
 root:Int
 S:List Int
 t:Int
 e:Int
structure On (n:Net) (root:Int) (S:List Int) (t e:Int):Prop where
 G:cC n.ins.length n.cq
 gY:S.length<=1000000
 eq:uN n.ins.length n.cq root S=(t,e)
@[reducible] noncomputable def XN:Vc.Spec where
 α:=ajf
 args x:=[.agg (oj x.n),.i .i64 (λ_=>x.root),.sl 1 bJ (λ_=>x.S)]
 pre x:=On x.n x.root x.S x.t x.e
 res x:=.cd [.i .i64 (λ_=>x.t),.i .i64 (λ_=>x.e)]
noncomputable def ajg (n m:Nat):Ctx:=cW n m [] [(241,XM),(243,Oc),(242,Xy),(244,Xz)]
theorem Na (n m:Nat):CB PP (ajg n m):=cZ n m trivial ⟨af6,Vr,afJ,afK,trivial⟩
theorem af7:cY (PP ()) 187 XN:=by
 refine e6 (Na 0 0) (fo Tryz.func187) (λa=>⟨rQ a.n,trivial,λx=>(dq x).1,trivial⟩) (λa=>⟨trivial,trivial,trivial⟩) ?_
 rintro ⟨⟨ins,gs,outs,dr⟩,root,S,t,e⟩ hx
 obtain ⟨G,hS,sG⟩:On ⟨ins,gs,outs,dr⟩ root S t e:=hx
 have G:cC ins.length gs:=G
 have sG:uN ins.length gs root S=(t,e):=sG
 have hb:=G.mK
 rcases hc:iD ins.length gs root S with _|l
 ·have ye:Ju ⟨ins,gs,outs,dr⟩ root S none:=⟨G,hS,hc⟩
  unfold uN at sG
  rw [hc] at sG
  cases sG
  refine ⟨?_⟩
  cbv
  refine ⟨⟨⟨ins,gs,outs,dr⟩,root,S,none⟩,⟨by exact a8,ye⟩,?_⟩
  cbv
  exact ⟨by exact a8⟩
 have ye:Ju ⟨ins,gs,outs,dr⟩ root S (some l):=⟨G,hS,hc⟩
 have hL:=KY hc
 have yk:=hL.inc.nodup
 have uZ:∀x∈S,2<=x:=λx hx=>(hL.mem x hx).1
 have hS4:=hL.len
 obtain ⟨jX,fP⟩:=DT G hc
 have l9:=adZ G hc
 have hgN:∀v:Int,0<=v->∀g,gI ins.length gs v.toNat=some g->v < vN ⟨ins,gs,outs,dr⟩:=λv h0 g hg=>by
  obtain ⟨i,hi,pv⟩:=pJ.1 hg
  have:=(bf.1 pv).1
  show v < 2+(ins.length:Int)+gs.length
  omega
 refine ⟨?_⟩
 cbv
 refine ⟨⟨⟨ins,gs,outs,dr⟩,root,S,some l⟩,⟨by exact a8,ye⟩,?_⟩
 cbv
 refine ⟨0,⟨by exact a8⟩,?_⟩
 cbv
 refine ⟨-1,⟨by exact a8⟩,?_⟩
 cbv
 refine Sat.dP (Na 0 0) 2 11 [] (λy:Nat × (Int->Option Int)=>[(28,.sl 1 bJ (λ_=>S)),(29,.i .i64 (λ_=>(S.length:Int))),(30,.i .i64 (λ_=>(y.1:Int)))]) (λy=>[(1,.map (.int .i64) bJ (λ_=>y.2))]) (λy=>AE S y.1 y.2) (λy=>S.length - y.1) (0,uO (uO (λ_=>none) 0 0) 1 (-1)) (by exact aW) (by exact aW) ⟨cI _,rfl,rfl,λi x h=>absurd h (s5 _)⟩ ?_
 rintro ⟨j,m⟩ hJ
 have hJ:AE S j m:=hJ
 have ei:=hJ.le
 have jg:=n0 j
 have lg:=eh (i:=j) (by omega)
 cbv
 refine ⟨λh=>?_,λh=>?_⟩
 ·have wj:j < S.length:=aG
  have cf:S.length - (j+1) < S.length - j:=by omega
  refine (cg wj).elim λx hx=>?_
  have hj4:j < 4:=by omega
  obtain ⟨C,hC⟩:∃C,ux j=C:=⟨_,rfl⟩
  have cb:=hJ.step yk uZ hx
  rw [hC] at cb
  obtain ⟨m2,ot⟩:∃m2,uO m x C=m2:=⟨_,rfl⟩
  rw [ot] at cb
  have yo:(λk=>if k=x then some C else m k)=m2:=ot
  clear h
  cbv
  refine ⟨x,⟨jg,hx⟩,?_⟩
  cbv
  refine ⟨j,⟨by exact a8,hj4⟩,?_⟩
  cbv
  refine ⟨C,⟨by have bK:=hC;exact bM⟩,?_⟩
  cbv
  exact ⟨(j+1,m2),by have bK:=lg;exact bq,by have q8:=yo;exact bq,⟨⟨cb,cf⟩⟩⟩
 have bV:S.length<=j:=aG
 have hT0:=hJ.fin (I:=ins.length) (gs:=gs) bV yk uZ l
 clear h jg lg
 cbv
 refine Sat.dP (Na 0 0) 2 11 [] (λy:Nat × (Int->Option Int)=>[(40,.sl 1 bJ (λ_=>l)),(41,.i .i64 (λ_=>(l.length:Int))),(42,.i .i64 (λ_=>(y.1:Int)))]) (λy=>[(1,.map (.int .i64) bJ (λ_=>y.2))]) (λy=>wH ins.length gs S l y.1 y.2) (λy=>l.length - y.1) (0,m) (by exact aW) (by exact aW) hT0 ?_
 rintro ⟨i,m⟩ hT
 have hT:wH ins.length gs S l i m:=hT
 have bO:=hT.le
 have dv:=n0 i
 cbv
 refine ⟨λh=>?_,λh=>?_⟩
 ·have wE:i < l.length:=aG
  have cf:l.length - (i+1) < l.length - i:=by omega
  refine (cg wE).elim λv hv=>?_
  obtain ⟨wA,Ke,CZ⟩:=(fP v).1 (cM hv)
  obtain ⟨g,hg,h7⟩:=acM G hc (cM hv)
  have jH:0<=v:=wY (by decide) wA
  have e8:pT ⟨ins,gs,outs,dr⟩ v=(g,true):=by
   unfold pT
   rw [show gI (Net.mk ins gs outs dr).ins.length (Net.mk ins gs outs dr).cq v.toNat=some g from hg]
   simp only [if_neg h7]
  have tI:ins.length<=1000/\gs.length<=1000/\0<=v/\v < vN ⟨ins,gs,outs,dr⟩/\pT ⟨ins,gs,outs,dr⟩ v=(g,true):=⟨by omega,by omega,jH,hgN v jH g hg,e8⟩
  have fg:∀o∈cH g,m o=some (kZ ins.length gs S o.toNat):=λo ho=>hT.op G hc hv hg h7 ho
  have hA:=fg g.a (ahB g)
  obtain ⟨ta,O3⟩:∃ta,kZ ins.length gs S g.a.toNat=ta:=⟨_,rfl⟩
  obtain ⟨R,hR⟩:∃R,kZ ins.length gs S v.toNat=R:=⟨_,rfl⟩
  have IW:∀B C,(∀t,m g.b=some t->B=t)->(∀t,m g.c=some t->C=t)->combineM g.op ta B C=R:=λB C hB hC=>by
   rw [<-hR,acp G (by rw [Int.toNat_of_nonneg jH];exact CZ) hg]
   exact acK O3.symm (λh=>hB _ (fg _ (ahC h))) (λh=>hC _ (fg _ (ahD h)))
  have cb:=hT.step hv wA CZ
  rw [O3] at hA
  rw [hR] at cb
  obtain ⟨m2,ot⟩:∃m2,uO m v R=m2:=⟨_,rfl⟩
  rw [ot] at cb
  have yo:(λk=>if k=v then some R else m k)=m2:=ot
  have eW:=eh (i:=i) (by omega)
  have fv:wH ins.length gs S l (i+1) m2/\l.length - (i+1) < l.length - i:=⟨cb,cf⟩
  clear h
  rcases hB:m g.b with _|tb<;>rcases hC:m g.c with _|tc
  ·have l6:=IW 0 0 (λt h=>by rw [hB] at h;cases h) (λt h=>by rw [hC] at h;cases h)
   cbv
   refine ⟨v,⟨dv,hv⟩,?_⟩
   cbv
   refine ⟨⟨⟨ins,gs,outs,dr⟩,v,g,true⟩,⟨by exact a8,tI⟩,?_⟩
   cbv
   refine ⟨some (some ta),⟨hA⟩,?_⟩
   cbv
   refine ⟨some none,⟨hB⟩,?_⟩
   cbv
   refine ⟨some none,⟨hC⟩,?_⟩
   cbv
   refine ⟨⟨g.op,ta,0,0,R⟩,⟨by exact a8,l6⟩,?_⟩
   cbv
   refine ⟨R,⟨by exact a8⟩,?_⟩
   cbv
   exact ⟨(i+1,m2),by have bK:=eW;exact bq,by have q8:=yo;exact bq,⟨fv⟩⟩
  ·have l6:=IW 0 tc (λt h=>by rw [hB] at h;cases h) (λt h=>by rw [hC] at h;cases h;rfl)
   cbv
   refine ⟨v,⟨dv,hv⟩,?_⟩
   cbv
   refine ⟨⟨⟨ins,gs,outs,dr⟩,v,g,true⟩,⟨by exact a8,tI⟩,?_⟩
   cbv
   refine ⟨some (some ta),⟨hA⟩,?_⟩
   cbv
   refine ⟨some none,⟨hB⟩,?_⟩
   cbv
   refine ⟨some (some tc),⟨hC⟩,?_⟩
   cbv
   refine ⟨⟨g.op,ta,0,tc,R⟩,⟨by exact a8,l6⟩,?_⟩
   cbv
   refine ⟨R,⟨by exact a8⟩,?_⟩
   cbv
   exact ⟨(i+1,m2),by have bK:=eW;exact bq,by have q8:=yo;exact bq,⟨fv⟩⟩
  ·have l6:=IW tb 0 (λt h=>by rw [hB] at h;cases h;rfl) (λt h=>by rw [hC] at h;cases h)
   cbv
   refine ⟨v,⟨dv,hv⟩,?_⟩
   cbv
   refine ⟨⟨⟨ins,gs,outs,dr⟩,v,g,true⟩,⟨by exact a8,tI⟩,?_⟩
   cbv
   refine ⟨some (some ta),⟨hA⟩,?_⟩
   cbv
   refine ⟨some (some tb),⟨hB⟩,?_⟩
   cbv
   refine ⟨some none,⟨hC⟩,?_⟩
   cbv
   refine ⟨⟨g.op,ta,tb,0,R⟩,⟨by exact a8,l6⟩,?_⟩
   cbv
   refine ⟨R,⟨by exact a8⟩,?_⟩
   cbv
   exact ⟨(i+1,m2),by have bK:=eW;exact bq,by have q8:=yo;exact bq,⟨fv⟩⟩
  ·have l6:=IW tb tc (λt h=>by rw [hB] at h;cases h;rfl) (λt h=>by rw [hC] at h;cases h;rfl)
   cbv
   refine ⟨v,⟨dv,hv⟩,?_⟩
   cbv
   refine ⟨⟨⟨ins,gs,outs,dr⟩,v,g,true⟩,⟨by exact a8,tI⟩,?_⟩
   cbv
   refine ⟨some (some ta),⟨hA⟩,?_⟩
   cbv
   refine ⟨some (some tb),⟨hB⟩,?_⟩
   cbv
   refine ⟨some (some tc),⟨hC⟩,?_⟩
   cbv
   refine ⟨⟨g.op,ta,tb,tc,R⟩,⟨by exact a8,l6⟩,?_⟩
   cbv
   refine ⟨R,⟨by exact a8⟩,?_⟩
   cbv
   exact ⟨(i+1,m2),by have bK:=eW;exact bq,by have q8:=yo;exact bq,⟨fv⟩⟩
 have bV:l.length<=i:=aG
 have ZU:m root=some (kZ ins.length gs S root.toNat):=by
  rcases acL G hc with q|q
  ·exact hT.leaf root q
  ·exact hT.nd root (by rw [iM bV];exact q)
 obtain ⟨tr,ZV⟩:∃tr,kZ ins.length gs S root.toNat=tr:=⟨_,rfl⟩
 rw [ZV] at ZU
 unfold uN BK at sG
 rw [hc,ZV] at sG
 obtain ⟨ht,he⟩:=Prod.mk.inj sG
 have s1:(0:Int)<=((S.length:Nat):Int):=n0 _
 have s3:0<=IntKind.u64.wrap (1*2^min ((S.length:Nat):Int).toNat IntKind.u64.bits)/\IntKind.i64.wrap (IntKind.i64.wrap (1*2^min (IntKind.u64.wrap (1*2^min ((S.length:Nat):Int).toNat IntKind.u64.bits)).toNat IntKind.i64.bits) - 1)=2^2^S.length - 1:=by
  have:S.length=0\/S.length=1\/S.length=2\/S.length=3\/S.length=4:=by omega
  rcases this with q|q|q|q|q<;>rw [q]<;>decide
 obtain ⟨s2,s4⟩:=s3
 have nk:fH .and .i64 tr (IntKind.i64.wrap (IntKind.i64.wrap (1*2^min (IntKind.u64.wrap (1*2^min ((S.length:Nat):Int).toNat IntKind.u64.bits)).toNat IntKind.i64.bits) - 1))=t:=by rw [s4];exact ht
 clear h s4
 cbv
 refine ⟨some (some tr),⟨ZU⟩,?_⟩
 cbv
 exact ⟨⟨s1⟩,⟨s2⟩,⟨by have bK:=nk;have fW:=he;exact bM⟩⟩
theorem R8 {sig:Int->Option Int}:∀{S:List Int} {i:Nat} {x:Int},(∀j y,j < i->S[j]?=some y->(sig y).isSome=true)->S[i]?=some x->sig x=none->mB sig S=((S.take i).map λy=>(sig y).getD 0,false)
 | [],i,x,_,h,_=>by simp at h
 | y :: S,0,x,_,h,hn=>by
  simp at h;subst h
  unfold mB;rw [hn];rfl
 | y :: S,i+1,x,ha,h,hn=>by
  have hy:=ha 0 y (by omega) rfl
  obtain ⟨s,hs⟩:=qD.1 hy
  have ih:=R8 (S:=S) (i:=i) (x:=x) (λj z hj hz=>ha (j+1) z (by omega) hz) h hn
  unfold mB
  simp only [hs,ih,List.take_succ_cons,ig,rJ]
theorem abY {sig:Int->Option Int} {S:List Int} (h:∀j y,j < S.length->S[j]?=some y->(sig y).isSome=true):mB sig S=(S.map λy=>(sig y).getD 0,true) :=
 Hb λx hx=>by
  obtain ⟨j,hj⟩:=qG hx
  exact qD.1 (h j x (bf.1 hj).1 hj)
structure ajh where
 n:Net
 root:Int
 S:List Int
 sig:Int->Option Int
 c:Cell
 e:Int
structure Jv (n:Net) (root:Int) (S:List Int) (sig:Int->Option Int) (c:Cell) (e:Int):Prop where
 G:cC n.ins.length n.cq
 gY:S.length<=1000000
 lo:2+(n.ins.length:Int)<=root
 hi:root < 2+(n.ins.length:Int)+n.cq.length
 eq:cellOf n.ins.length n.cq root S sig=(c,e)
@[reducible] noncomputable def Oo:Vc.Spec where
 α:=ajh
 args x:=[.agg (oj x.n),.i .i64 (λ_=>x.root),.sl 1 bJ (λ_=>x.S),.mp (.int .i64) bJ (λ_=>x.sig)]
 pre x:=Jv x.n x.root x.S x.sig x.c x.e
 res x:=.cd [.agg (mF x.c),.i .i64 (λ_=>x.e)]
noncomputable def aji (n m:Nat):Ctx:=cW n m [] [(186,Jl),(96,Od),(187,XN)]
theorem VH (n m:Nat):CB PP (aji n m):=cZ n m trivial ⟨M3,Vs,af7,trivial⟩
theorem VI:cY (PP ()) 116 Oo:=by
 refine e6 (VH 0 0) (fo Tryz.func116) (λa=>⟨rQ a.n,trivial,λx=>(dq x).1,λx=>(dq x).1,trivial⟩) (λa=>⟨(Bz _).1,trivial,trivial⟩) ?_
 rintro ⟨⟨ins,gs,outs,dr⟩,root,S,sig,⟨ci,ct,cr⟩,e⟩ hx
 obtain ⟨G,hS,gS,jE,lM⟩:Jv ⟨ins,gs,outs,dr⟩ root S sig ⟨ci,ct,cr⟩ e:=hx
 have G:cC ins.length gs:=G
 have gS:2+(ins.length:Int)<=root:=gS
 have jE:root < 2+(ins.length:Int)+gs.length:=jE
 have lM:cellOf ins.length gs root S sig=(⟨ci,ct,cr⟩,e):=lM
 have hb:=G.mK
 obtain ⟨Rf,mM⟩:∃Rf:Nat->List Int,∀i,Rf i=(S.take i).map λy=>(sig y).getD 0:=⟨_,λ_=>rfl⟩
 have CW:[]=Rf 0:=by rw [mM];rfl
 have AA:∀(i:Nat) (x s:Int),S[i]?=some x->sig x=some s->Rf i++[s]=Rf (i+1):=λi x s hx hs=>by
  rw [mM,mM,iT,hx,mW,vC,ig,Hq,hs];rfl
 have F6:∀i,i<=S.length->(Rf i).length=i:=λi hi=>by rw [mM,jQ,lq];omega
 have Ny:∀(i:Nat) (x:Int),(∀j y,j < i->S[j]?=some y->(sig y).isSome=true)->S[i]?=some x->sig x=none->Rf i=ci/\0=ct/\-1=cr/\260=e:=λi x h1 h2 h3=>by
  have hc:=lM
  unfold cellOf at hc
  rw [R8 h1 h2 h3,<-mM] at hc
  simp only [mV,if_false,Prod.mk.injEq,Cell.mk.injEq] at hc
  obtain ⟨⟨a,b,c⟩,d⟩:=hc
  exact ⟨a,b,c,d⟩
 obtain ⟨A,hA⟩:∃A,Rf S.length=A:=⟨_,rfl⟩
 have pv:root.toNat - 2 - ins.length < gs.length:=by omega
 obtain ⟨g,hg⟩:=cg (l:=gs) pv
 have ZW:gI ins.length gs root.toNat=some g:=pJ.2 ⟨_,by omega,hg⟩
 obtain ⟨tt,te,ZX⟩:∃tt te,uN ins.length gs root S=(tt,te):=⟨_,_,rfl⟩
 have ajj:(∀j y,j < S.length->S[j]?=some y->(sig y).isSome=true)->(if g.op=7 then ((⟨A,0,g.n⟩:Cell),if S=cH g then (0:Int) else 260) else if S=[root] then (⟨A,0,-1⟩,260) else (⟨A,tt,-1⟩,if te=0 then 0 else 260))=(⟨ci,ct,cr⟩,e):=λh=>by
  have hc:=lM
  unfold cellOf at hc
  have hm:S.map (λy=>(sig y).getD 0)=A:=by rw [<-hA,mM,List.take_length]
  rw [abY h,hm] at hc
  simp only [if_true,ZW,ZX] at hc
  exact hc
 have w1:IntKind.i64.wrap (root - 2)=root - 2:=dV (by omega) (by omega)
 have w2:IntKind.i64.wrap (IntKind.i64.wrap (root - 2) - (ins.length:Int))=root - 2 - ins.length:=by rw [w1];exact dV (by omega) (by omega)
 have Fx:0<=IntKind.i64.wrap (IntKind.i64.wrap (root - 2) - (ins.length:Int))/\gs[(IntKind.i64.wrap (IntKind.i64.wrap (root - 2) - (ins.length:Int))).toNat]?=some g:=by
  rw [w2]
  refine ⟨by omega,?_⟩
  rw [show (root - 2 - (ins.length:Int)).toNat=root.toNat - 2 - ins.length by omega];exact hg
 have uZ:S.length<=1000000000000:=by omega
 clear lM ZW
 refine ⟨?_⟩
 cbv
 refine Sat.pR 2 0 3 1 zr dq rfl rfl ?_
 cbv
 refine Sat.dP (VH 0 0) 4 11 [(.c 2 0,3)] (λi:Nat=>[(18,.sl 1 bJ (λ_=>S)),(19,.i .i64 (λ_=>(S.length:Int))),(20,.i .i64 (λ_=>(i:Int)))]) (λi=>[(2,.fix 135 [.own 3,.ic .i64 0,.ic .i64 (-1)]),(3,.dyn 3 1 bJ (λ_=>Rf i))]) (λi=>i<=S.length/\∀j y,j < i->S[j]?=some y->(sig y).isSome=true) (λi=>S.length - i) 0 (by exact aW) (by have eH:=CW;exact bq) ⟨cI _,λj y h=>absurd h (s5 _)⟩ ?_
 intro i hi
 obtain ⟨hi,PW⟩:i<=S.length/\∀j y,j < i->S[j]?=some y->(sig y).isSome=true:=hi
 have dv:=n0 i
 have eW:=eh (i:=i) (by omega)
 have hRi:=F6 i hi
 have b1:((Rf i).length+1)*8<=140737488355328:=by omega
 have b2:(Rf i).length+1<=9223372036854775807:=by omega
 cbv
 refine ⟨λh=>?_,λh=>?_⟩
 ·have bO:i < S.length:=aG
  have cf:S.length - (i+1) < S.length - i:=by omega
  refine (cg bO).elim λx hx=>?_
  clear h
  rcases hs:sig x with _|s
  ·obtain ⟨e1,e2,e3,e4⟩:=Ny i x PW hx hs
   cbv
   refine ⟨x,⟨dv,hx⟩,?_⟩
   cbv
   refine ⟨some none,⟨hs⟩,?_⟩
   cbv
   exact ⟨by have iJ:=e1;have fW:=e2;have yf:=e3;have JY:=e4;exact bM⟩
  ·have CS:=AA i x s hx hs
   have cb:(i+1<=S.length/\∀j y,j < i+1->S[j]?=some y->(sig y).isSome=true)/\S.length - (i+1) < S.length - i:=⟨⟨bO,λj y hj hy=>by
    by_cases q:j=i
    ·subst q;rw [hx] at hy;cases hy;rw [hs];rfl
    ·exact PW j y (by omega) hy⟩,cf⟩
   cbv
   refine ⟨x,⟨dv,hx⟩,?_⟩
   cbv
   refine ⟨some (some s),⟨hs⟩,?_⟩
   cbv
   refine ⟨[s],⟨by exact a8,b1,b2⟩,?_⟩
   cbv
   exact ⟨i+1,by have bK:=eW;exact bq,by have eH:=CS;exact bq,⟨cb⟩⟩
 have bV:S.length<=i:=aG
 have hiS:i=S.length:=by omega
 subst hiS
 have hf:=ajj PW
 obtain ⟨O,hO⟩:∃O,cH g=O:=⟨_,rfl⟩
 have ZO:O.length<=1000000000000:=by have:=(vI g).2;rw [hO] at this;omega
 rw [hO] at hf
 clear h
 cbv
 refine ⟨g,⟨Fx⟩,?_⟩
 cbv
 refine ⟨λh=>?_,λh=>?_⟩
 ·have h7:g.op=7:=aG
  rw [if_pos h7] at hf
  obtain ⟨⟨e1,e2,e3⟩,e4⟩:(A=ci/\0=ct/\g.n=cr)/\(if S=O then (0:Int) else 260)=e:=by simpa only [Prod.mk.injEq,Cell.mk.injEq] using hf
  have e1:=hA.trans e1
  clear h
  cbv
  refine ⟨g,⟨by exact a8,trivial⟩,?_⟩
  cbv
  refine ⟨⟨S,O⟩,⟨by have iJ:=hO;exact bM,⟨uZ,ZO⟩⟩,?_⟩
  cbv
  refine ⟨λh=>?_,λh=>?_⟩
  ·have bR:¬S=O:=by have h':(!decide (S=O))=true:=h.out;simpa using h'
   rw [if_neg bR] at e4
   cbv
   exact ⟨by have iJ:=e1;have fW:=e2;have bK:=e3;have yf:=e4;exact bM⟩
  ·have heq:S=O:=by have h':(!decide (S=O))=false:=h.out;simpa using h'
   rw [if_pos heq] at e4
   cbv
   exact ⟨by have iJ:=e1;have fW:=e2;have bK:=e3;have yf:=e4;exact bM⟩
 have h7:¬g.op=7:=aG
 rw [if_neg h7] at hf
 have yp:([root]:List Int).length<=1000000000000:=by show 1<=1000000000000;decide
 clear h
 cbv
 refine ⟨⟨S,[root]⟩,⟨.inl ⟨by exact a8,rfl⟩,⟨uZ,yp⟩⟩,?_⟩
 cbv
 refine ⟨λh=>?_,λh=>?_⟩
 ·have heq:S=[root]:=by have h':decide (S=[root])=true:=h.out;simpa using h'
  rw [if_pos heq] at hf
  obtain ⟨⟨e1,e2,e3⟩,e4⟩:(A=ci/\0=ct/\-1=cr)/\(260:Int)=e:=by simpa only [Prod.mk.injEq,Cell.mk.injEq] using hf
  have e1:=hA.trans e1
  cbv
  exact ⟨by have iJ:=e1;have fW:=e2;have yf:=e3;have JY:=e4;exact bM⟩
 have bR:¬S=[root]:=by have h':decide (S=[root])=false:=h.out;simpa using h'
 rw [if_neg bR] at hf
 obtain ⟨⟨e1,e2,e3⟩,e4⟩:(A=ci/\tt=ct/\-1=cr)/\(if te=0 then (0:Int) else 260)=e:=by simpa only [Prod.mk.injEq,Cell.mk.injEq] using hf
 have e1:=hA.trans e1
 have J0:On ⟨ins,gs,outs,dr⟩ root S tt te:=⟨G,hS,ZX⟩
 clear h
 cbv
 refine ⟨⟨⟨ins,gs,outs,dr⟩,root,S,tt,te⟩,⟨by exact a8,J0⟩,?_⟩
 cbv
 refine ⟨λh=>?_,λh=>?_⟩
 ·have sG:¬te=0:=aG
  rw [if_neg sG] at e4
  cbv
  exact ⟨by have iJ:=e1;have bK:=e2;have fW:=e3;have yf:=e4;exact bM⟩
 ·have sG:te=0:=aG
  rw [if_pos sG] at e4
  cbv
  exact ⟨by have iJ:=e1;have bK:=e2;have fW:=e3;have yf:=e4;exact bM⟩
end Go.Proofs.Pk
