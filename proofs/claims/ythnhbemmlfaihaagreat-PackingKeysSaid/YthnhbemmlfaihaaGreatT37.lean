import Derived.Test.YthnhbemmlfaihaaGreatT19
import Derived.Test.YthnhbemmlfaihaaGreatT22
import Derived.Test.YthnhbemmlfaihaaGreatT33
import Derived.Test.YthnhbemmlfaihaaGreatT34
import Derived.Test.YthnhbemmlfaihaaGreatT36
set_option linter.unusedVariables false
set_option linter.unusedSimpArgs false
set_option maxRecDepth 10000
set_option maxHeartbeats 64000000
namespace Go.Proofs.Pk
open Go Go.Vc
def wK (n:Net) (m:gE) (i:Nat):PK:=(m.cells.take i).foldl (ji n.ins) ⟨[],[],false,false,λ_=>none⟩
def qL (n:Net) (m:gE):List (bT × Int):=n.outs.zip m.ay
def wL (n:Net) (m:gE) (i:Nat):PK:=((qL n m).take i).foldl (oy n.ins) (wK n m m.cells.length)
def nF (n:Net) (m:gE):PK:=wL n m n.outs.length
def su (n:Net) (m:gE):PK:=oh (nF n m) 0 (nF n m).n0
def p_ (n:Net) (m:gE):PK:=oh (su n m) 1 (nF n m).n1
def QY (n:Net) (m:gE):Int:=if (nF n m).n0 then (nF n m).parts.length else 0
def QZ (n:Net) (m:gE):Int:=if (nF n m).n1 then (su n m).parts.length else 0
def wM (n:Net) (m:gE) (i:Nat):TH:=((qL n m).take i).foldl (nr n.ins) ⟨p_ n m,[],λ_=>none⟩
theorem take_one {α:Type} {l:List α} {i:Nat} {x:α} (h:l[i]?=some x):l.take (i+1)=l.take i++[x]:=by
 rw [DE,h];rfl
theorem GG {α β:Type} (f:β->α->β) (b:β) {l:List α} {i:Nat} {x:α} (h:l[i]?=some x):(l.take (i+1)).foldl f b=f ((l.take i).foldl f b) x:=by
 rw [take_one h,Ni];rfl
theorem aoH {n:Net} {m:gE} {i:Nat} {c:Cell} (h:m.cells[i]?=some c):wK n m (i+1)=ji n.ins (wK n m i) c:=GG _ _ h
theorem afq {n:Net} {m:gE} {i:Nat} {w:bT} {d:Int} (hw:n.outs[i]?=some w) (hd:m.ay[i]?=some d):(qL n m)[i]?=some (w,d):=by
 unfold qL;rw [Na];exact ⟨hw,hd⟩
theorem aoI {n:Net} {m:gE} {i:Nat} {w:bT} {d:Int} (hw:n.outs[i]?=some w) (hd:m.ay[i]?=some d):wL n m (i+1)=oy n.ins (wL n m i) (w,d):=GG _ _ (afq hw hd)
theorem aoJ {n:Net} {m:gE} {i:Nat} {w:bT} {d:Int} (hw:n.outs[i]?=some w) (hd:m.ay[i]?=some d):wM n m (i+1)=nr n.ins (wM n m i) (w,d):=GG _ _ (afq hw hd)
theorem UC {n:Net} {m:gE} (hm:jz n m):(qL n m).length=n.outs.length:=by
 unfold qL;rw [List.length_zip,hm.o5,Nat.min_self]
theorem anB {n:Net} {m:gE} (hm:jz n m):ot n m=⟨QY n m,QZ n m,wM n m n.outs.length⟩:=by
 have e1:wK n m m.cells.length=m.cells.foldl (ji n.ins) ⟨[],[],false,false,λ_=>none⟩:=by unfold wK;rw [kh]
 have e2:(qL n m).take n.outs.length=n.outs.zip m.ay:=by rw [<-UC hm,kh];rfl
 have e3:nF n m=(n.outs.zip m.ay).foldl (oy n.ins) (m.cells.foldl (ji n.ins) ⟨[],[],false,false,λ_=>none⟩):=by unfold nF wL;rw [e2,e1]
 unfold ot QY QZ wM p_ su
 rw [e2,e3]
theorem anC {n:Net} (hn:eQ n):(qq n.outs).length<=600:=by
 have:=abW hn
 have:=hn.pf
 omega
theorem ak2 (l:List bT) (i:Nat):(qq (l.take i)).length<=(qq l).length:=by
 have h:(qq (l.take i)).Sublist (qq l):=(Nh i l).filter _
 exact h.length_le
structure at5 (n:Net) (i:Nat) (k:PK):Prop where
 ok:oz n.ins i k
 dH:k.parts.length<=600
theorem afr {n:Net} {m:gE} (hn:eQ n) (hm:jz n m) {i:Nat} (hi:i<=m.cells.length):at5 n i (wK n m i):=by
 obtain ⟨h1,h2,h3⟩:=M9 hm i hi
 have:=hm.dH
 have:=hn.pf
 exact ⟨h1,by show (wK n m i).parts.length<=600;unfold wK;omega⟩
theorem amC {n:Net} {m:gE} (hm:jz n m) (c:Int):(wK n m m.cells.length).bK c=none:=by
 obtain ⟨a1,a2,a3⟩:=M9 hm m.cells.length (cP _)
 unfold wK
 cases hc:((m.cells.take m.cells.length).foldl (ji n.ins) ⟨[],[],false,false,λ_=>none⟩).bK c with
 | none=>rfl
 | some v =>
  obtain ⟨b,_,x,hx,hr,h0⟩:=a1.back c v hc
  have:=a2 x (b_ hx)
  omega
theorem amD {α β:Type} (f:α->β) (l:List α) (i:Nat):(l.take i).map f=(l.map f).take i:=by rw [SB]
structure aho (n:Net) (m:gE) (k:PK):Prop where
 ok:oz n.ins m.cells.length k
 dH:k.parts.length<=1200
theorem UD {n:Net} {m:gE} {i:Nat} {p:bT × Int} (hp:p∈(qL n m).take i):p.1∈n.outs/\p.2∈m.ay:=Su (uC hp)
theorem aea {n:Net} {m:gE} (hn:eQ n) (hm:jz n m) (i:Nat):aho n m (wL n m i)/\(∀p∈(qL n m).take i,p.1.kind≠1->(p.2=0->(wL n m i).n0=true)/\(p.2=1->(wL n m i).n1=true)) /\
  (∀p∈(qL n m).take i,p.1.kind=1->(wL n m i).bK (lA p.1)≠none):=by
 have a:=afr hn hm (cP m.cells.length)
 have ahp:((qL n m).take i).map (·.1)=n.outs.take i:=by rw [amD];unfold qL;rw [ad3 hm]
 obtain ⟨b1,b2,b3,b4,b5,b6,b7,b8⟩:=NB ((qL n m).take i) (wK n m m.cells.length) a.ok (by rw [ahp];exact hn.KK.sublist (Nh i _))
  (λp hp=>by
   have jU:=(UD hp).1
   have:=hn.outs _ jU
   exact ⟨this.1,λhk=>(hn.ins _ ((hn.aN _ hk).2 jU)).2⟩)
  (λp hp=>hm.ay _ (UD hp).2) (λp hp hk=>amC hm _)
 rw [ahp] at b2
 have:=ak2 n.outs i
 have:=anC hn
 have:=a.dH
 exact ⟨⟨b1,by show (wL n m i).parts.length<=1200;unfold wL;omega⟩,b7,b4⟩
theorem Vo {n:Net} {m:gE} (hn:eQ n) (hm:jz n m) (i:Nat):aho n m (wL n m i):=(aea hn hm i).1
structure at6 (n:Net) (m:gE) (t:TH):Prop where
 ok:oz n.ins m.cells.length t.k
 dH:t.k.parts.length<=2000
 bK:t.k.bK=(p_ n m).bK
 thr:∀l u,t.thr l=some u->u.kind=2/\0<=u.n/\u.n < t.k.parts.length
 dl:t.ay.length<=n.outs.length
theorem afs {n:Net} {m:gE} (hn:eQ n) (hm:jz n m):oz n.ins m.cells.length (p_ n m)/\(p_ n m).parts.length<=1202/\(p_ n m).n0=(nF n m).n0/\(p_ n m).n1=(nF n m).n1/\(su n m).parts.length<=1201/\(su n m).n0=(nF n m).n0/\(su n m).n1=(nF n m).n1/\(p_ n m).bK=(nF n m).bK:=by
 have h:=Vo hn hm n.outs.length
 have hf:(nF n m).parts.length<=1200:=h.dH
 obtain ⟨c1,c2,_,c4,c5,c6,c7,c8⟩:=ND h.ok (v:=0) (.inl rfl) (nF n m).n0
 obtain ⟨d1,d2,_,d4,d5,d6,d7,d8⟩:=ND c1 (v:=1) (.inr rfl) (nF n m).n1
 have c2:(su n m).parts.length<=(nF n m).parts.length+1:=c2
 have d2:(p_ n m).parts.length<=(su n m).parts.length+1:=d2
 have c5:(su n m).n0=(nF n m).n0:=c5
 have c6:(su n m).n1=(nF n m).n1:=c6
 have d5:(p_ n m).n0=(su n m).n0:=d5
 have d6:(p_ n m).n1=(su n m).n1:=d6
 have c4:(su n m).bK=(nF n m).bK:=c4
 have d4:(p_ n m).bK=(su n m).bK:=d4
 exact ⟨d1,by omega,d5.trans c5,d6.trans c6,by omega,c5,c6,d4.trans c4⟩
theorem aft {n:Net} {m:gE} (hn:eQ n) (hm:jz n m) (i:Nat):at6 n m (wM n m i):=by
 obtain ⟨h1,h2,h3,h4,_⟩:=afs hn hm
 have gv:=aea hn hm n.outs.length
 have C9:E9 n.ins m.cells.length (p_ n m).parts.length ⟨p_ n m,[],λ_=>none⟩:=⟨h1,by simp,by simp,λl u hu=>by cases hu⟩
 obtain ⟨f1,_,f3,_,_,f6⟩:=GF ((qL n m).take i) ⟨p_ n m,[],λ_=>none⟩ C9 (λp hp=>hm.ay _ (UD hp).2) (λp hp hk=>by
  have qC:p∈(qL n m).take n.outs.length:=by rw [<-UC hm,kh];exact uC hp
  have:=gv.2.1 p qC hk
  show (_->(p_ n m).n0=true)/\(_->(p_ n m).n1=true)
  rw [h3,h4]
  exact this)
 have g1:=f1.len
 have g2:=ad2 (others n.ins).length (wM n m i).thr
 have g3:(others n.ins).length<=n.ins.length:=zZ _ _
 have g4:=hn.pf
 have g5:(others (((qL n m).take i).map (·.1))).length<=n.outs.length:=by
  have h1:(others (((qL n m).take i).map (·.1))).length<=(((qL n m).take i).map (·.1)).length:=zZ _ _
  rw [oT,lu,UC hm] at h1
  omega
 refine ⟨f1.k,?_,f3,f1.thr,by show (wM n m i).ay.length<=_;unfold wM;rw [f6];simpa using g5⟩
 show (wM n m i).k.parts.length<=2000
 unfold wM at g2 ⊢
 omega
def AR (l:List bT) (i:Nat):List Int->Option Int:=((l.take i).foldl sG (λ_=>none,0)).1
theorem afu:∀(l:List bT) (st:(List Int->Option Int) × Int),(l.foldl sG st).2=st.2+(others l).length
 | [],st=>by simp [others]
 | w :: r,st=>by
  rw [vz,afu r]
  by_cases hw:w.kind=1
  ·simp [sG,others,hw]
  ·simp [sG,others,hw];omega
theorem aoK (l:List bT):AR l l.length=vJ l:=by unfold AR;rw [kh];rfl
theorem ac9 {l:List bT} {i:Nat} {w:bT} (h:l[i]?=some w) (hk:w.kind=1):AR l (i+1)=AR l i/\others (l.take (i+1))=others (l.take i):=by
 refine ⟨?_,by rw [take_one h];simp [others,hk]⟩
 unfold AR
 rw [GG _ _ h]
 simp [sG,hk]
theorem ac_ {l:List bT} {i:Nat} {w:bT} (h:l[i]?=some w) (hk:w.kind≠1):AR l (i+1)=(λj=>if j=gw w then some ((others (l.take i)).length:Int) else AR l i j)/\others (l.take (i+1))=others (l.take i)++[w]:=by
 refine ⟨?_,by rw [take_one h];simp [others,hk]⟩
 unfold AR
 rw [GG _ _ h]
 have:=afu (l.take i) (λ_=>none,0)
 simp only [sG,hk,if_false]
 rw [this,Int.zero_add]
 rfl
theorem ap1 {n:Net} {m:gE} {k:PK} {nc:Nat} (hk:oz n.ins nc k) {g:Int} (h0:0<=g) (h1:g < 2+n.ins.length+nc):pN n.ins k.parts.length (gH n.ins k.cells g):=JA hk.cells h0 (by rw [hk.nc];exact h1)
def xM (first:Int) (bK:Int->Option Int) (c0 c1:Int) (s:Source):Int :=
 if s.kind=1 then first+2*(bK s.n).getD 0+1
 else if s.kind=2 then first+2*s.n
 else if s.kind=3 then first+2*(if s.n=0 then c0 else c1)
 else s.n
structure ahq where
 s:Source
 ins:List bT
 bK:Int->Option Int
 c0:Int
 c1:Int
structure Lb (y:ahq):Prop where
 ins:y.ins.length<=1000000
 flip:y.s.kind=1->∃v,y.bK y.s.n=some v/\0<=v/\v<=1000000
 u6:y.s.kind=2->0<=y.s.n/\y.s.n<=1000000
 con:y.s.kind=3->y.s.n=0\/y.s.n=1
 c0:0<=y.c0/\y.c0<=1000000
 c1:0<=y.c1/\y.c1<=1000000
@[reducible] noncomputable def WH:Vc.Spec where
 α:=ahq
 args y:=[.agg (l7 y.s),.dC [.sl 3 dc (λ_=>y.ins),.any,.any,.any] 0,.dC [.dC [.any,.any,.any,.any,.any,.any,.any,.any,.any,.mp kF bJ (λ_=>y.bK)] 0] 0,.dC [.any,.i .i64 (λ_=>y.c0),.any,.i .i64 (λ_=>y.c1)] 0]
 pre y:=Lb y
 res y:=.i .i64 (λ_=>xM y.ins.length y.bK y.c0 y.c1 y.s)
noncomputable def cNm (n m:Nat):Ctx:=eB n m [] []
theorem arz (n m:Nat):CB PP (cNm n m):=eD n m trivial trivial
theorem ap2:cS (PP ()) 169 WH:=by
 refine dP (arz 0 0) (fo Tryz.func169) (λa=>⟨⟨trivial,trivial,trivial⟩,⟨λx=>(gL x).1,trivial,trivial,trivial,trivial⟩,⟨⟨trivial,trivial,trivial,trivial,trivial,trivial,trivial,trivial,trivial,λx=>(cM x).1,trivial⟩,trivial⟩,⟨trivial,trivial,trivial,trivial,trivial⟩,trivial⟩) (λa=>trivial) ?_
 rintro ⟨⟨sk,sn⟩,ins,bK,c0,c1⟩ hx
 have hx:Lb ⟨⟨sk,sn⟩,ins,bK,c0,c1⟩:=hx
 have gQ:ins.length<=1000000:=hx.ins
 have zg:sk=1->∃v,bK sn=some v/\0<=v/\v<=1000000:=hx.flip
 have Qw:sk=2->0<=sn/\sn<=1000000:=hx.u6
 have Yi:sk=3->sn=0\/sn=1:=hx.con
 have mr:0<=c0/\c0<=1000000:=hx.c0
 have k9:0<=c1/\c1<=1000000:=hx.c1
 obtain ⟨R,hR⟩:∃R,xM ins.length bK c0 c1 ⟨sk,sn⟩=R:=⟨_,rfl⟩
 have j9:WH.res ⟨⟨sk,sn⟩,ins,bK,c0,c1⟩=.i .i64 (λ_=>R):=by rw [<-hR]
 rw [j9]
 unfold xM at hR
 simp only at hR
 refine ⟨?_⟩
 cbv
 refine ⟨λh=>?_,λh=>?_⟩
 ·have hk:sk=1:=bE
  rw [if_pos hk] at hR
  refine (zg hk).elim λv hv=>?_
  rw [hv.1,nM] at hR
  have hw:IntKind.i64.wrap (IntKind.i64.wrap ((ins.length:Int)+IntKind.i64.wrap (2*v))+1)=R:=by rw [cz (n:=2*v) (by omega) (by omega),cz (n:=(ins.length:Int)+2*v) (by omega) (by omega),cz (by omega) (by omega)];exact hR
  cbv
  refine ⟨some (some v),⟨hv.1⟩,?_⟩
  cbv
  exact ⟨by exact aJ⟩
 have eT:¬sk=1:=bE
 rw [if_neg eT] at hR
 cbv
 refine ⟨λh=>?_,λh=>?_⟩
 ·have hk:sk=2:=bE
  rw [if_pos hk] at hR
  have hb:=Qw hk
  have hw:IntKind.i64.wrap ((ins.length:Int)+IntKind.i64.wrap (2*sn))=R:=by rw [cz (n:=2*sn) (by omega) (by omega),cz (by omega) (by omega)];exact hR
  cbv
  exact ⟨by exact aJ⟩
 have my:¬sk=2:=bE
 rw [if_neg my] at hR
 cbv
 refine ⟨λh=>?_,λh=>?_⟩
 ·have hk:sk=3:=bE
  rw [if_pos hk] at hR
  rcases Yi hk with hn|hn
  ·rw [if_pos hn] at hR
   have hw:IntKind.i64.wrap ((ins.length:Int)+IntKind.i64.wrap (2*c0))=R:=by rw [cz (n:=2*c0) (by omega) (by omega),cz (by omega) (by omega)];exact hR
   cbv
   refine ⟨0,⟨hn,by decide⟩,?_⟩
   cbv
   exact ⟨by exact aJ⟩
  ·rw [if_neg (by omega)] at hR
   have hw:IntKind.i64.wrap ((ins.length:Int)+IntKind.i64.wrap (2*c1))=R:=by rw [cz (n:=2*c1) (by omega) (by omega),cz (by omega) (by omega)];exact hR
   cbv
   refine ⟨1,⟨hn,by decide⟩,?_⟩
   cbv
   exact ⟨by exact aJ⟩
 have nE:¬sk=3:=bE
 rw [if_neg nE] at hR
 cbv
 exact ⟨by exact aJ⟩
structure ahr where
 l:List Source
 ins:List bT
 bK:Int->Option Int
 c0:Int
 c1:Int
structure Qa (z:ahr):Prop where
 dH:z.l.length<=1000000
 s:∀s∈z.l,Lb ⟨s,z.ins,z.bK,z.c0,z.c1⟩
@[reducible] noncomputable def aeb:Vc.Spec where
 α:=ahr
 args z:=[.sl 2 l7 (λ_=>z.l),.fn (.func 169) [] [.dC [.sl 3 dc (λ_=>z.ins),.any,.any,.any] 0,.dC [.dC [.any,.any,.any,.any,.any,.any,.any,.any,.any,.mp kF bJ (λ_=>z.bK)] 0] 0,.dC [.any,.i .i64 (λ_=>z.c0),.any,.i .i64 (λ_=>z.c1)] 0]]
 pre z:=Qa z
 res z:=.sl 1 bJ (λ_=>z.l.map (xM z.ins.length z.bK z.c0 z.c1))
 fr:=true
noncomputable def cCn (n m:Nat):Ctx:=eB n m [] [(169,WH)]
theorem afv (n m:Nat):CB PP (cCn n m):=eD n m trivial ⟨ap2,trivial⟩
theorem anD:cS (PP ()) 172 aeb:=by
 refine Ov (afv 0 0) (fo Tryz.func172) (λa=>⟨(λx=>(yr x).1),⟨trivial,⟨λx=>(gL x).1,trivial,trivial,trivial,trivial⟩,⟨⟨trivial,trivial,trivial,trivial,trivial,trivial,trivial,trivial,trivial,λx=>(cM x).1,trivial⟩,trivial⟩,⟨trivial,trivial,trivial,trivial,trivial⟩,trivial⟩,trivial⟩) (λa=>(λx=>(cM x).1)) ?_
 rintro ⟨l,ins,bK,c0,c1⟩ hx
 have hx:Qa ⟨l,ins,bK,c0,c1⟩:=hx
 have Yj:l.length<=1000000:=hx.dH
 have zt:∀s∈l,Lb ⟨s,ins,bK,c0,c1⟩:=hx.s
 obtain ⟨f,hf⟩:∃f,f=xM ins.length bK c0 c1:=⟨_,rfl⟩
 have eE:0<=(l.length:Int)/\8*(l.length:Int)<=281474976710656/\(l.length:Int)<=9223372036854775807:=by omega
 refine ⟨?_⟩
 cbv
 refine ⟨⟨by decide,eE.1,eE.2.1,eE.2.2⟩,?_⟩
 cbv
 refine Sat.ca (afv 0 0) 1 5 [(.t 5,0)] (λi:Nat=>[(5,.own 0),(11,.sl 2 l7 (λ_=>l)),(12,.i .i64 (λ_=>(l.length:Int))),(13,.i .i64 (λ_=>(i:Int)))]) (λi=>[(0,.dyn 3 1 bJ (λ_=>(l.take i).map f))]) (λi=>i<=l.length) (λi=>l.length - i) 0 (by exact ao) (by exact ao) (cJ _) ?_
 intro i hi
 have hi:i<=l.length:=hi
 have h0:=n0 i
 have h1:=cd (i:=i) (by omega)
 cbv
 refine ⟨λh=>?_,λh=>?_⟩
 ·have bp:i < l.length:=bE
  have a7:l.length - (i+1) < l.length - i:=by omega
  refine (bz bp).elim λs hs=>?_
  have sZ:=zt s (b_ hs)
  have yf:(l.take i).map f++[f s]=(l.take (i+1)).map f:=by rw [Eg hs];simp
  have dY:(((l.take i).map f).length+1)*8<=140737488355328:=by simp;omega
  have mT:((l.take i).map f).length+1<=9223372036854775807:=by simp;omega
  have zy:xM ins.length bK c0 c1 s=f s:=by rw [hf]
  cbv
  refine ⟨s,⟨h0,hs⟩,?_⟩
  cbv
  refine ⟨⟨s,ins,bK,c0,c1⟩,⟨.inl ⟨by exact bP,rfl⟩,sZ⟩,?_⟩
  cbv
  refine ⟨[f s],⟨by have bj:=zy;exact cN,dY,mT⟩,?_⟩
  cbv
  exact ⟨i+1,by exact ao,by have dM:=yf;exact bH,⟨⟨bp,a7⟩⟩⟩
 ·have bR:i=l.length:=by
   have h':aS i l.length=false:=h.out
   have h2:¬(i:Int) < l.length:=by simpa [aS] using h'
   omega
  have gv:(l.take i).map f=l.map (xM ins.length bK c0 c1):=by rw [bR,kh,hf]
  cbv
  refine ⟨?_⟩
  cbv
  exact ⟨by have dG:=gv;exact dv,λx=>rfl⟩
def atR (l:List Block):Nat->Int->Option Int
 | 0=>λ_=>none
 | i+1=>λj=>if j=(l.getD i Fb).key then some (i:Int) else atR l i j
theorem Ts {l:List Block} {i:Nat} {x:Block} (h:l[i]?=some x):(λj=>if j=x.key then some (i:Int) else atR l i j)=atR l (i+1):=by
 show _=λj=>if j=(l.getD i Fb).key then some (i:Int) else atR l i j
 rw [gW,h];rfl
theorem Tt {l:List Block}:∀{i:Nat} {k v:Int},i<=l.length->atR l i k=some v->∃j:Nat,v=j/\j < i/\∃x,l[j]?=some x/\x.key=k
 | 0,k,v,_,h=>by cases h
 | i+1,k,v,hi,h=>by
  have hg:l[i]?=some l[i]:=eh (by omega)
  rw [<-Ts hg] at h
  simp only at h
  split at h
  ·rename_i e
   cases h
   exact ⟨i,rfl,by omega,_,hg,e.symm⟩
  ·obtain ⟨j,h1,h2,h3⟩:=Tt (by omega) h
   exact ⟨j,h1,by omega,h3⟩
theorem aec {l:List Block}:∀{i:Nat} {j:Nat} {x:Block},i<=l.length->j < i->l[j]?=some x->∃v,atR l i x.key=some v
 | 0,j,x,_,h,_=>by omega
 | i+1,j,x,hi,h,hx=>by
  have hg:l[i]?=some l[i]:=eh (by omega)
  rw [<-Ts hg]
  simp only
  split
  ·exact ⟨_,rfl⟩
  ·rename_i e
   refine aec (by omega) ?_ hx
   have:j≠i:=by rintro rfl;rw [hg] at hx;cases hx;exact e rfl
   omega
def Md (p:bq):Int->Option Int:=atR p.blocks p.blocks.length
theorem N_ {p:bq} {k:Int}:(Md p k).isSome=true↔k∈jJ p:=by
 unfold Md
 constructor
 ·intro h
  obtain ⟨v,hv⟩:=uB.1 h
  obtain ⟨j,_,_,x,hx,rfl⟩:=Tt (cP _) hv
  exact j3.2 ⟨x,b_ hx,rfl⟩
 ·intro h
  obtain ⟨x,hx,rfl⟩:=j3.1 h
  obtain ⟨j,hj⟩:=na hx
  obtain ⟨v,hv⟩:=aec (cP _) (bX.1 hj).1 hj
  rw [hv];rfl
theorem UE {p:bq} (hd:yy p) {k:Int} (h:k∈jJ p):∃x,Md p k=some (Bh p k:Int)/\p.blocks[Bh p k]?=some x/\x.key=k:=by
 obtain ⟨v,hv⟩:=uB.1 (N_.2 h)
 obtain ⟨j,rfl,_,x,hx,rfl⟩:=Tt (cP _) hv
 rw [Uy hd hx]
 exact ⟨x,hv,hx,rfl⟩
theorem dedup:∀l:List Int,∃ks:List Int,ks.Nodup/\(∀n,n∈ks↔n∈l)/\ks.length<=l.length/\(ks.length=l.length->l.Nodup)/\(l.Nodup->ks=l)
 | []=>⟨[],by simp,by simp,by simp,by simp,by simp⟩
 | a :: r=>by
  obtain ⟨ks,h1,h2,h3,h4,h5⟩:=dedup r
  by_cases ha:a∈r
  ·refine ⟨ks,h1,λn=>?_,by simp;omega,λh=>?_,λh=>?_⟩
   ·rw [h2,er];exact ⟨.inr,λh=>h.elim (λe=>e ▸ ha) id⟩
   ·simp at h;omega
   ·exact absurd ha (qS.1 h).1
  ·refine ⟨a :: ks,qS.2 ⟨λh=>ha ((h2 a).1 h),h1⟩,λn=>by rw [er,er,h2],by simp;omega,λh=>?_,λh=>?_⟩
   ·exact qS.2 ⟨ha,h4 (by simpa using h)⟩
   ·rw [h5 (qS.1 h).2]
def v9 (n:Int) (q:bq) (iM:Int->Option Int) (s:Int):Int :=
 if s < q.ins.length then s else n+2*(iM (q.blocks.getD (cK q.ins.length s) Fb).key).getD 0+(s - q.ins.length) % 2
theorem aoL {p q:bq} (hd:yy p) (hm:∀y∈q.blocks,y.key∈jJ p) {s:Int} (h0:0<=s) (h1:s < q.sigs):v9 p.ins.length q (Md p) s=rv p q s:=by
 unfold v9 rv
 split
 ·rfl
 ·unfold bq.sigs at h1
  have hb:cK q.ins.length s < q.blocks.length:=by unfold cK;omega
  have hy:q.blocks[cK q.ins.length s]?=some q.blocks[cK q.ins.length s]:=eh hb
  rw [gW,hy,nM]
  obtain ⟨x,e,_,_⟩:=UE hd (hm _ (DH hb))
  rw [e];rfl
@[reducible] def kU:KD:=.int .u64
structure ahs where
 s:Int
 p:bq
 q:bq
 iM:Int->Option Int
structure Lc (y:ahs):Prop where
 pi:y.p.ins.length<=1000000
 qi:y.q.ins.length<=1000000
 qb:y.q.blocks.length<=1000000
 lo:0<=y.s
 hi:y.s < y.q.sigs
 iM:∀x∈y.q.blocks,∃v,y.iM x.key=some v/\0<=v/\v<=1000000
@[reducible] noncomputable def Vp:Vc.Spec where
 α:=ahs
 args y:=[.i .i64 (λ_=>y.s),.dC (fq y.q) 0,.dC (fq y.p) 0,.dC [.mp kU bJ (λ_=>y.iM)] 0,.dC (fq y.q) 0]
 pre y:=Lc y
 res y:=.i .i64 (λ_=>v9 y.p.ins.length y.q y.iM y.s)
noncomputable def cRn (n m:Nat):Ctx:=eB n m [(94,Tryz.f94)] [(95,Cf)]
theorem arA (n m:Nat):CB PP (cRn n m):=eD n m ⟨fo Tryz.func94,trivial⟩ ⟨Ef,trivial⟩
theorem aoM:cS (PP ()) 93 Vp:=by
 refine dP (arA 0 0) (fo Tryz.func93) (λa=>⟨trivial,km a.q,km a.p,⟨(λx=>(cM x).1),trivial⟩,km a.q,trivial⟩) (λa=>trivial) ?_
 rintro ⟨s,⟨pins,dQ,fe,eY⟩,⟨ins,blocks,outs,ay⟩,iM⟩ hx
 have hx:Lc ⟨s,⟨pins,dQ,fe,eY⟩,⟨ins,blocks,outs,ay⟩,iM⟩:=hx
 have Q5:pins.length<=1000000:=hx.pi
 have hqi:ins.length<=1000000:=hx.qi
 have hqb:blocks.length<=1000000:=hx.qb
 have h0:0<=s:=hx.lo
 have h1:s < (ins.length:Int)+2*(blocks.length:Int):=hx.hi
 have iD:∀x∈blocks,∃v,iM x.key=some v/\0<=v/\v<=1000000:=hx.iM
 obtain ⟨R,hR⟩:∃R,v9 pins.length ⟨ins,blocks,outs,ay⟩ iM s=R:=⟨_,rfl⟩
 have j9:Vp.res ⟨s,⟨pins,dQ,fe,eY⟩,⟨ins,blocks,outs,ay⟩,iM⟩=.i .i64 (λ_=>R):=by rw [<-hR]
 rw [j9]
 unfold v9 at hR
 simp only at hR
 clear hx
 refine ⟨?_⟩
 cbv
 refine ⟨λh=>?_,λh=>?_⟩
 ·have aR:s < (ins.length:Int):=bE
  rw [if_pos aR] at hR
  cbv
  exact ⟨by exact aJ⟩
 have bR:¬s < (ins.length:Int):=bE
 rw [if_neg bR] at hR
 have h1:s < (ins.length:Int)+2*(blocks.length:Int):=h1
 obtain ⟨d,hd⟩:∃d:Nat,cK ins.length s=d:=⟨_,rfl⟩
 rw [hd] at hR
 have fB:IntKind.i64.wrap (s - (ins.length:Int))=s - (ins.length:Int):=cz (by omega) (by omega)
 have qI:(s - (ins.length:Int)) / 2=(d:Int):=by rw [<-hd];unfold cK;omega
 have hc:IntKind.i64.wrap ((IntKind.i64.wrap (s - (ins.length:Int))).tdiv 2)=(d:Int):=by
  rw [fB,zX (by omega),qI];exact cz (by omega) (by omega)
 have hm:(IntKind.i64.wrap (s - (ins.length:Int))).tmod 2=(s - (ins.length:Int)) % 2:=by
  rw [fB,w8 (by omega)]
 have fO:d < blocks.length:=by omega
 have o9:¬(d:Int) < 0:=by omega
 obtain ⟨y,hy⟩:=bz fO
 obtain ⟨v,hv,h_,hv6⟩:=iD y (b_ hy)
 have Iz:(pins.length:Int)+2*v+(s - (ins.length:Int)) % 2=R:=by
  rw [gW,hy,nM,hv] at hR
  exact hR
 have gx:0<=IntKind.i64.wrap ((IntKind.i64.wrap (s - (ins.length:Int))).tdiv 2)/\blocks[(IntKind.i64.wrap ((IntKind.i64.wrap (s - (ins.length:Int))).tdiv 2)).toNat]?=some y:=by rw [hc];exact ⟨by omega,hy⟩
 clear h hR
 cbv
 refine ⟨⟨by decide⟩,⟨by decide⟩,λh=>?_,λh=>?_⟩
 ·have hF:False:=by have h':aS (IntKind.i64.wrap ((IntKind.i64.wrap (s - (ins.length:Int))).tdiv 2)) 0=true:=h.out;rw [hc] at h';simp only [aS,decide_eq_true_eq] at h';exact o9 h'
  cases hF
 clear h
 cbv
 refine ⟨λh=>?_,λh=>?_⟩
 ·have hf:(s - (ins.length:Int)) % 2=1:=by have h':aV ((IntKind.i64.wrap (s - (ins.length:Int))).tmod 2) 1=true:=h.out;rw [hm] at h';simpa [aV] using h'
  have Iz:(pins.length:Int)+2*v+(s - (ins.length:Int)) % 2=R:=Iz
  have hw:IntKind.i64.wrap ((pins.length:Int)+2*v+1)=R:=by rw [cz (by omega) (by omega),<-Iz,hf]
  cbv
  refine ⟨y,⟨gx⟩,?_⟩
  cbv
  refine ⟨some (some v),⟨hv⟩,?_⟩
  cbv
  refine ⟨⟨⟨pins,dQ,fe,eY⟩,v⟩,⟨by exact bP,Q5,h_,hv6⟩,?_⟩
  cbv
  exact ⟨by exact aJ⟩
 ·have hf:(s - (ins.length:Int)) % 2=0:=by
   have h':aV ((IntKind.i64.wrap (s - (ins.length:Int))).tmod 2) 1=false:=h.out
   rw [hm] at h'
   have:¬(s - (ins.length:Int)) % 2=1:=by simpa [aV] using h'
   omega
  have Iz:(pins.length:Int)+2*v+(s - (ins.length:Int)) % 2=R:=Iz
  have hw:(pins.length:Int)+2*v=R:=by rw [<-Iz,hf,Int.add_zero]
  cbv
  refine ⟨y,⟨gx⟩,?_⟩
  cbv
  refine ⟨some (some v),⟨hv⟩,?_⟩
  cbv
  refine ⟨⟨⟨pins,dQ,fe,eY⟩,v⟩,⟨by exact bP,Q5,h_,hv6⟩,?_⟩
  cbv
  exact ⟨by exact aJ⟩
structure aht where
 l:List Int
 p:bq
 q:bq
 iM:Int->Option Int
structure Qb (z:aht):Prop where
 dH:z.l.length<=1000000
 s:∀s∈z.l,Lc ⟨s,z.p,z.q,z.iM⟩
@[reducible] noncomputable def aed:Vc.Spec where
 α:=aht
 args z:=[.sl 1 bJ (λ_=>z.l),.fn (.func 93) [] [.dC (fq z.q) 0,.dC (fq z.p) 0,.dC [.mp kU bJ (λ_=>z.iM)] 0,.dC (fq z.q) 0]]
 pre z:=Qb z
 res z:=.sl 1 bJ (λ_=>z.l.map (v9 z.p.ins.length z.q z.iM))
 fr:=true
noncomputable def cCr (n m:Nat):Ctx:=eB n m [] [(93,Vp)]
theorem afw (n m:Nat):CB PP (cCr n m):=eD n m trivial ⟨aoM,trivial⟩
theorem anE:cS (PP ()) 97 aed:=by
 refine Ov (afw 0 0) (fo Tryz.func97) (λa=>⟨(λx=>(cM x).1),⟨trivial,km a.q,km a.p,⟨(λx=>(cM x).1),trivial⟩,km a.q,trivial⟩,trivial⟩) (λa=>(λx=>(cM x).1)) ?_
 rintro ⟨l,p,q,iM⟩ hx
 have hx:Qb ⟨l,p,q,iM⟩:=hx
 have Yj:l.length<=1000000:=hx.dH
 have zt:∀s∈l,Lc ⟨s,p,q,iM⟩:=hx.s
 obtain ⟨f,hf⟩:∃f,f=v9 p.ins.length q iM:=⟨_,rfl⟩
 have eE:0<=(l.length:Int)/\8*(l.length:Int)<=281474976710656/\(l.length:Int)<=9223372036854775807:=by omega
 refine ⟨?_⟩
 cbv
 refine ⟨⟨by decide,eE.1,eE.2.1,eE.2.2⟩,?_⟩
 cbv
 refine Sat.ca (afw 0 0) 1 5 [(.t 5,0)] (λi:Nat=>[(5,.own 0),(11,.sl 1 bJ (λ_=>l)),(12,.i .i64 (λ_=>(l.length:Int))),(13,.i .i64 (λ_=>(i:Int)))]) (λi=>[(0,.dyn 3 1 bJ (λ_=>(l.take i).map f))]) (λi=>i<=l.length) (λi=>l.length - i) 0 (by exact ao) (by exact ao) (cJ _) ?_
 intro i hi
 have hi:i<=l.length:=hi
 have h0:=n0 i
 have h1:=cd (i:=i) (by omega)
 cbv
 refine ⟨λh=>?_,λh=>?_⟩
 ·have bp:i < l.length:=bE
  have a7:l.length - (i+1) < l.length - i:=by omega
  refine (bz bp).elim λs hs=>?_
  have sZ:=zt s (b_ hs)
  have yf:(l.take i).map f++[f s]=(l.take (i+1)).map f:=by rw [take_one hs];simp
  have dY:(((l.take i).map f).length+1)*8<=140737488355328:=by simp;omega
  have mT:((l.take i).map f).length+1<=9223372036854775807:=by simp;omega
  have zy:v9 p.ins.length q iM s=f s:=by rw [hf]
  cbv
  refine ⟨s,⟨h0,hs⟩,?_⟩
  cbv
  refine ⟨⟨s,p,q,iM⟩,⟨.inl ⟨by exact bP,rfl⟩,sZ⟩,?_⟩
  cbv
  refine ⟨[f s],⟨by have bj:=zy;exact cN,dY,mT⟩,?_⟩
  cbv
  exact ⟨i+1,by exact ao,by have dM:=yf;exact bH,⟨⟨bp,a7⟩⟩⟩
 ·have bR:i=l.length:=by
   have h':aS i l.length=false:=h.out
   have h2:¬(i:Int) < l.length:=by simpa [aS] using h'
   omega
  have gv:(l.take i).map f=l.map (v9 p.ins.length q iM):=by rw [bR,kh,hf]
  cbv
  refine ⟨?_⟩
  cbv
  exact ⟨by have dG:=gv;exact dv,λx=>rfl⟩
theorem at7 {i:Nat} (h:i < 16):IntKind.i64.wrap (1*2^(min ((i:Int)).toNat IntKind.i64.bits))=((2^i:Nat):Int):=by
 have:i=0\/i=1\/i=2\/i=3\/i=4\/i=5\/i=6\/i=7\/i=8\/i=9\/i=10\/i=11\/i=12\/i=13\/i=14\/i=15:=by omega
 rcases this with e|e|e|e|e|e|e|e|e|e|e|e|e|e|e|e<;>subst e<;>rfl
theorem arB {i:Nat} (h:i < 16):2^i < 65536:=by
 have:2^i<=2^15:=Nat.pow_le_pow_right (by decide) (by omega)
 omega
theorem Tu (l:List Bool):∀i,i<=15->∃n:Nat,xJ l i=(n:Int)/\n < 2^i
 | 0,_=>⟨0,rfl,by decide⟩
 | i+1,h=>by
  obtain ⟨n,h1,h2⟩:=Tu l i (by omega)
  have hp:=arB (i:=i) (by omega)
  unfold xJ
  split
  ·refine ⟨n ||| 2^i,?_,Sk (SE h2 (Gw (by decide) (by omega))) (Gw (by decide) (by omega))⟩
   rw [h1,at7 (by omega),agn (by omega) hp]
  ·exact ⟨n,h1,SE h2 (Gw (by decide) (by omega))⟩
theorem ab7 {l:List Bool} {i:Nat} (h:l[i]?=some true):lB .or .i64 (xJ l i) (IntKind.i64.wrap (1*2^(min ((i:Int)).toNat IntKind.i64.bits)))=xJ l (i+1):=by
 show _=if l.getD i false then _ else _
 rw [gW,h];rfl
theorem ada {l:List Bool} {i:Nat} (h:l[i]?=some false):xJ l i=xJ l (i+1):=by
 show _=if l.getD i false then _ else _
 rw [gW,h];rfl
structure at8 where
 t:Int
 l:List Bool
@[reducible] noncomputable def Vq:Vc.Spec where
 α:=at8
 args x:=[.i .i64 (λ_=>x.t),.sl 1 iU (λ_=>x.l)]
 pre x:=x.l.length<=1000000
 res x:=.b (λ_=>yS x.t x.l)
noncomputable def cLk (n m:Nat):Ctx:=eB n m [] []
theorem afx (n m:Nat):CB PP (cLk n m):=eD n m trivial trivial
theorem aoN:cS (PP ()) 120 Vq:=by
 refine dP (afx 0 0) (fo Tryz.func120) (λa=>⟨trivial,(λx=>(tu x).1),trivial⟩) (λa=>trivial) ?_
 rintro ⟨t,l⟩ hx
 have Yj:l.length<=1000000:=hx
 obtain ⟨R,hR⟩:∃R,yS t l=R:=⟨_,rfl⟩
 have j9:Vq.res ⟨t,l⟩=.b (λ_=>R):=by rw [<-hR]
 rw [j9]
 unfold yS at hR
 obtain ⟨U,hU⟩:∃U:Nat->Int,∀i,U i=xJ l i:=⟨_,λ_=>rfl⟩
 have Yk:0=U 0:=by rw [hU];rfl
 refine ⟨?_⟩
 cbv
 refine ⟨λh=>?_,λh=>?_⟩
 ·have h5:5 < l.length:=by have h':aS 5 (l.length:Int)=true:=h.out;simp only [aS,decide_eq_true_eq] at h';omega
  rw [if_pos h5] at hR
  cbv
  exact ⟨by exact aJ⟩
 have h5:¬5 < l.length:=by have h':aS 5 (l.length:Int)=false:=h.out;simp only [aS,decide_eq_false_iff_not] at h';omega
 rw [if_neg h5] at hR
 clear h
 cbv
 refine Sat.ca (afx 0 0) 0 5 [] (λi:Nat=>[(5,.i .i64 (λ_=>U i)),(11,.sl 1 iU (λ_=>l)),(12,.i .i64 (λ_=>(l.length:Int))),(13,.i .i64 (λ_=>(i:Int)))]) (λi=>[]) (λi=>i<=l.length) (λi=>l.length - i) 0 (by have nY:=Yk;exact bH) (by exact ao) (cJ _) ?_
 intro i hi
 have hi:i<=l.length:=hi
 have h0:=n0 i
 have h1:=cd (i:=i) (by omega)
 cbv
 refine ⟨λh=>?_,λh=>?_⟩
 ·have bp:i < l.length:=bE
  have a7:l.length - (i+1) < l.length - i:=by omega
  refine (bz bp).elim λb hb=>?_
  cbv
  refine ⟨b,⟨h0,hb⟩,?_⟩
  cbv
  refine ⟨λh=>?_,λh=>?_⟩
  ·have wA:b=true:=h.out
   have cG:lB .or .i64 (U i) (IntKind.i64.wrap (1*2^(min ((i:Int)).toNat IntKind.i64.bits)))=U (i+1):=by rw [hU,hU];exact ab7 (by rw [hb,wA])
   cbv
   refine ⟨⟨h0⟩,?_⟩
   cbv
   exact ⟨i+1,by have bj:=cG;have lE:=h1;exact bH,by exact ao,⟨⟨bp,a7⟩⟩⟩
  ·have wA:b=false:=h.out
   have cG:U i=U (i+1):=by rw [hU,hU];exact ada (by rw [hb,wA])
   cbv
   exact ⟨i+1,by have bj:=cG;have lE:=h1;exact bH,by exact ao,⟨⟨bp,a7⟩⟩⟩
 have bR:i=l.length:=by
  have h':aS i l.length=false:=h.out
  have h2:¬(i:Int) < l.length:=by simpa [aS] using h'
  omega
 have hU1:0<=U i:=by
  obtain ⟨n,hn,_⟩:=Tu l i (by omega)
  rw [hU,hn];exact Gf _
 have e:aV (lB .and .i64 (t.fdiv (2^(min (U i).toNat IntKind.i64.bits))) 1) 1=R:=by rw [<-hR,hU,bR];rfl
 clear h
 cbv
 refine ⟨⟨hU1⟩,?_⟩
 cbv
 exact ⟨by have jN:=e;exact dv⟩
structure at9 where
 s:Int
 out:List Bool
@[reducible] noncomputable def GvS:Vc.Spec where
 α:=at9
 args y:=[.i .i64 (λ_=>y.s),.dC [.sl 1 iU (λ_=>y.out)] 0]
 pre y:=0<=y.s/\y.s.toNat < y.out.length
 res y:=.b (λ_=>y.out.getD y.s.toNat false)
noncomputable def cGv (n m:Nat):Ctx:=eB n m [] []
theorem arC (n m:Nat):CB PP (cGv n m):=eD n m trivial trivial
theorem arD:cS (PP ()) 220 GvS:=by
 refine dP (arC 0 0) (fo Tryz.func220) (λa=>⟨trivial,⟨(λx=>(tu x).1),trivial⟩,trivial⟩) (λa=>trivial) ?_
 rintro ⟨s,out⟩ hx
 obtain ⟨h0,h1⟩:0<=s/\s.toNat < out.length:=hx
 obtain ⟨b,hb⟩:=bz h1
 have e:b=out.getD s.toNat false:=by rw [gW,hb];rfl
 refine ⟨?_⟩
 cbv
 refine ⟨b,⟨h0,hb⟩,?_⟩
 cbv
 exact ⟨by have jN:=e;exact dv⟩
structure ahu where
 l:List Int
 out:List Bool
structure WJ (z:ahu):Prop where
 dH:z.l.length<=1000000
 s:∀s∈z.l,0<=s/\s.toNat < z.out.length
@[reducible] noncomputable def aee:Vc.Spec where
 α:=ahu
 args z:=[.sl 1 bJ (λ_=>z.l),.fn (.func 220) [] [.dC [.sl 1 iU (λ_=>z.out)] 0]]
 pre z:=WJ z
 res z:=.sl 1 iU (λ_=>z.l.map λs=>z.out.getD s.toNat false)
 fr:=true
noncomputable def cCb (n m:Nat):Ctx:=eB n m [] [(220,GvS)]
theorem afy (n m:Nat):CB PP (cCb n m):=eD n m trivial ⟨arD,trivial⟩
theorem anF:cS (PP ()) 219 aee:=by
 refine Ov (afy 0 0) (fo Tryz.func219) (λa=>⟨(λx=>(cM x).1),⟨trivial,⟨(λx=>(tu x).1),trivial⟩,trivial⟩,trivial⟩) (λa=>(λx=>(tu x).1)) ?_
 rintro ⟨l,out⟩ hx
 have hx:WJ ⟨l,out⟩:=hx
 have Yj:l.length<=1000000:=hx.dH
 have zt:∀s∈l,0<=s/\s.toNat < out.length:=hx.s
 obtain ⟨f,hf⟩:∃f:Int->Bool,f=λs=>out.getD s.toNat false:=⟨_,rfl⟩
 have eE:0<=(l.length:Int)/\1*(l.length:Int)<=281474976710656/\(l.length:Int)<=9223372036854775807:=by omega
 refine ⟨?_⟩
 cbv
 refine ⟨⟨by decide,eE.1,eE.2.1,eE.2.2⟩,?_⟩
 cbv
 refine Sat.ca (afy 0 0) 1 5 [(.t 5,0)] (λi:Nat=>[(5,.own 0),(11,.sl 1 bJ (λ_=>l)),(12,.i .i64 (λ_=>(l.length:Int))),(13,.i .i64 (λ_=>(i:Int)))]) (λi=>[(0,.dyn 4 1 iU (λ_=>(l.take i).map f))]) (λi=>i<=l.length) (λi=>l.length - i) 0 (by exact ao) (by exact ao) (cJ _) ?_
 intro i hi
 have hi:i<=l.length:=hi
 have h0:=n0 i
 have h1:=cd (i:=i) (by omega)
 cbv
 refine ⟨λh=>?_,λh=>?_⟩
 ·have bp:i < l.length:=bE
  have a7:l.length - (i+1) < l.length - i:=by omega
  refine (bz bp).elim λs hs=>?_
  have sZ:=zt s (b_ hs)
  have yf:(l.take i).map f++[f s]=(l.take (i+1)).map f:=by rw [take_one hs];simp
  have dY:(((l.take i).map f).length+1)*1<=140737488355328:=by simp;omega
  have mT:((l.take i).map f).length+1<=9223372036854775807:=by simp;omega
  have zy:out.getD s.toNat false=f s:=by rw [hf]
  cbv
  refine ⟨s,⟨h0,hs⟩,?_⟩
  cbv
  refine ⟨⟨s,out⟩,⟨.inl ⟨by exact bP,rfl⟩,sZ⟩,?_⟩
  cbv
  refine ⟨[f s],⟨by have jN:=zy;exact cN,dY,mT⟩,?_⟩
  cbv
  exact ⟨i+1,by exact ao,by have dM:=yf;exact bH,⟨⟨bp,a7⟩⟩⟩
 ·have bR:i=l.length:=by
   have h':aS i l.length=false:=h.out
   have h2:¬(i:Int) < l.length:=by simpa [aS] using h'
   omega
  have gv:(l.take i).map f=l.map λs=>out.getD s.toNat false:=by rw [bR,kh,hf]
  cbv
  refine ⟨?_⟩
  cbv
  exact ⟨by have dG:=gv;exact dv,λx=>rfl⟩
end Go.Proofs.Pk
