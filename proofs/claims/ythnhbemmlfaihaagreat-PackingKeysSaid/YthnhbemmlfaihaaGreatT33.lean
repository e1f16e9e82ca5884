import Derived.Test.YthnhbemmlfaihaaGreatT19
import Derived.Test.YthnhbemmlfaihaaGreatT20
import Derived.Test.YthnhbemmlfaihaaGreatT21
import Derived.Test.YthnhbemmlfaihaaGreatT32
set_option linter.unusedVariables false
set_option linter.unusedSimpArgs false
set_option maxRecDepth 10000
set_option maxHeartbeats 64000000
namespace Go.Proofs.Pk
open Go Go.Vc
structure ly (n:Nat) (l:List Int):Prop where
 len:l.length=n
 Iv:∀x∈l,0<=x/\x < n
 nd:l.Nodup
def m6 (l:List Int) (i:Nat):Nat:=(l.getD i 0).toNat
theorem ly.get {n:Nat} {l:List Int} (h:ly n l) {i:Nat} (hi:i < n):l[i]?=some (m6 l i:Int)/\m6 l i < n:=by
 have hl:i < l.length:=by rw [h.len];exact hi
 have:=h.Iv _ (DH hl)
 unfold m6
 rw [gW,eh hl,nM]
 refine ⟨?_,by omega⟩
 congr 1;omega
theorem ly.inj {n:Nat} {l:List Int} (h:ly n l) {i j:Nat} (hi:i < n) (hj:j < n) (e:m6 l i=m6 l j):i=j:=by
 have h1:=(h.get hi).1
 have h2:=(h.get hj).1
 rw [<-e] at h2
 have:=h.nd
 rw [Jn,Jp] at this
 have bp:i < l.length:=by rw [h.len];exact hi
 have eA:j < l.length:=by rw [h.len];exact hj
 rw [eh bp] at h1
 rw [eh eA] at h2
 cases Si i j with
 | inl aR=>exact absurd ((BK h1).trans (BK h2).symm) (this i j bp eA aR)
 | inr bR=>cases bR with
  | inl he=>exact he
  | inr aR=>exact absurd ((BK h2).trans (BK h1).symm) (this j i eA bp aR)
theorem anr {n:Nat} {l:List Int} (h:ly n l):l.map (·.toNat)=(List.range n).map (m6 l):=by
 apply nL
 intro i
 rw [mM,mM]
 by_cases hi:i < n
 ·rw [(h.get hi).1,Gc hi];simp
 ·rw [l6 (by rw [h.len];omega),l6 (by simp;omega)];rfl
theorem amu {α β:Type} {f:α->β} {l:List α} (h:∀x∈l,∀y∈l,f x=f y->x=y) (hn:l.Nodup):(l.map f).Nodup:=by
 induction l with
 | nil=>simp
 | cons x r ih =>
  obtain ⟨h1,h2⟩:=qS.1 hn
  rw [lM,qS]
  refine ⟨λhm=>?_,ih (λa ha b hb=>h a (by simp [ha]) b (by simp [hb])) h2⟩
  obtain ⟨y,hy,e⟩:=j3.1 hm
  have:=h y (by simp [hy]) x (by simp) e
  subst this
  exact h1 hy
theorem ly.perm {n:Nat} {l:List Int} (h:ly n l):((List.range n).map (m6 l)).Perm (List.range n):=by
 have gz:((List.range n).map (m6 l)).Nodup:=amu (λi hi j hj e=>h.inj (tr.1 hi) (tr.1 hj) e) Nk
 rw [R8 gz Nk]
 intro b
 constructor
 ·intro hb
  obtain ⟨i,hi,rfl⟩:=j3.1 hb
  exact tr.2 (h.get (tr.1 hi)).2
 ·intro hb
  by_cases hm:b∈(List.range n).map (m6 l)
  ·exact hm
  ·have h1:(b :: (List.range n).map (m6 l)).Nodup:=qS.2 ⟨hm,gz⟩
   have h2:=NF (l₂:=List.range n) h1 (λx hx=>by
    rcases er.1 hx with rfl|hx
    ·exact hb
    ·obtain ⟨i,hi,rfl⟩:=j3.1 hx
     exact tr.2 (h.get (tr.1 hi)).2)
   simp at h2
   omega
theorem ly.ahe {n:Nat} {l:List Int} (h:ly n l) {b:Nat} (hb:b < n):∃i,i < n/\m6 l i=b:=by
 have:=h.perm.mem_iff.2 (tr.2 hb)
 obtain ⟨i,hi,e⟩:=j3.1 this
 exact ⟨i,tr.1 hi,e⟩
noncomputable def carry {A:Type} (n:Nat) (l:List Int) (d:A) (K:Nat->A) (b:Nat):A:=if h:∃i,i < n/\m6 l i=b then K (Classical.choose h) else d
theorem JC {A:Type} {n:Nat} {l:List Int} (h:ly n l) (d:A) (K:Nat->A) {i:Nat} (hi:i < n):carry n l d K (m6 l i)=K i:=by
 have hex:∃j,j < n/\m6 l j=m6 l i:=⟨i,hi,rfl⟩
 unfold carry
 rw [dif_pos hex]
 have:=w_ hex
 rw [h.inj this.1 hi this.2]
theorem ans {A:Type} {n:Nat} {l:List Int} (h:ly n l) (d:A) (K:Nat->A) {b:Nat} (hb:n<=b):carry n l d K b=d:=by
 unfold carry
 rw [dif_neg]
 rintro ⟨i,hi,e⟩
 have:=(h.get hi).2
 omega
def nv (p:bq) (l:List Int) (s:Int):Int:=if s < p.ins.length then s else p.ins.length+2*l.getD (cK p.ins.length s) 0+(s - p.ins.length) % 2
def Aq (p:bq) (l:List Int) (x:Block):Block:={ x with ins:=x.ins.map (nv p l) }
def Fb:Block:=⟨[],0,0,0,0⟩
def nO (p:bq) (l:List Int):bq :=
 ⟨p.ins,(l.zip p.blocks).foldl (λb u=>b.set u.1.toNat (Aq p l u.2)) (List.replicate p.blocks.length Fb),p.outs,p.ay.map (nv p l)⟩
theorem RT {f:Block->Block}:∀(w:List (Int × Block)) (b:List Block),(w.foldl (λb u=>b.set u.1.toNat (f u.2)) b).length=b.length
 | [],b=>rfl
 | u :: r,b=>by simp only [vz];rw [RT r];simp
theorem Z9 {f:Block->Block}:∀(w:List (Int × Block)) (b:List Block) (k:Nat),(∀u∈w,u.1.toNat≠k)->(w.foldl (λb u=>b.set u.1.toNat (f u.2)) b)[k]?=b[k]?
 | [],b,k,_=>rfl
 | u :: r,b,k,h=>by
  simp only [vz]
  rw [Z9 r _ k λv hv=>h v (by simp [hv]),eU (h u (by simp))]
theorem Z_ {f:Block->Block}:∀(w:List (Int × Block)) (b:List Block),(w.map λu=>u.1.toNat).Nodup->(∀u∈w,u.1.toNat < b.length)->∀u∈w,(w.foldl (λb u=>b.set u.1.toNat (f u.2)) b)[u.1.toNat]?=some (f u.2)
 | [],b,_,_,u,hu=>by cases hu
 | v :: r,b,hn,hl,u,hu=>by
  rw [lM,qS] at hn
  simp only [vz]
  rcases er.1 hu with rfl|hu
  ·rw [Z9 r _ _ λx hx e=>hn.1 (j3.2 ⟨x,hx,e⟩),qn (hl _ (by simp))]
  ·exact Z_ r _ hn.2 (λx hx=>by rw [kB];exact hl x (by simp [hx])) u hu
theorem Gp (p:bq) (l:List Int):(nO p l).blocks.length=p.blocks.length:=by
 unfold nO;simp only;rw [RT];simp
theorem JD {p:bq} {l:List Int} (h:ly p.blocks.length l) {i:Nat} {x:Block} (hx:p.blocks[i]?=some x):(nO p l).blocks[m6 l i]?=some (Aq p l x):=by
 have hi:=(bX.1 hx).1
 have hg:=(h.get hi).1
 have hz:l.map (·.toNat)=(l.zip p.blocks).map λu=>u.1.toNat:=by
  have:l=(l.zip p.blocks).map (·.1):=by rw [Sr];rw [h.len];exact cP _
  conv=>lhs;rw [this]
  rw [Gi];rfl
 have hu:((m6 l i:Int),x)∈l.zip p.blocks:=by
  refine b_ (i:=i) ?_
  rw [Na]
  exact ⟨hg,hx⟩
 have:=Z_ (f:=Aq p l) (l.zip p.blocks) (List.replicate p.blocks.length Fb) (by
  rw [<-hz,anr h]
  exact (h.perm.nodup_iff).2 Nk) (λu hu=>by
  have:=h.Iv u.1 (Su hu).1
  simp;omega) _ hu
 simp only [oS] at this
 exact this
theorem Gq {p:bq} {l:List Int} (h:ly p.blocks.length l) {b:Nat} {y:Block} (hy:(nO p l).blocks[b]?=some y):∃i x,p.blocks[i]?=some x/\y=Aq p l x/\m6 l i=b/\i < p.blocks.length:=by
 have hb:=(bX.1 hy).1
 rw [Gp] at hb
 obtain ⟨i,hi,rfl⟩:=h.ahe hb
 have hx:p.blocks[i]?=some p.blocks[i]:=eh hi
 rw [JD h hx] at hy
 exact ⟨i,_,hx,(BK hy).symm,rfl,hi⟩
structure arc (p:bq) (l:List Int) (s:Int):Prop where
 lo:s < p.ins.length->nv p l s=s
 ge:(p.ins.length:Int)<=s->(p.ins.length:Int)<=nv p l s/\nv p l s < p.sigs/\cK p.ins.length (nv p l s)=m6 l (cK p.ins.length s)/\(fj p.ins.length (nv p l s)↔fj p.ins.length s)/\cK p.ins.length s < p.blocks.length
theorem TY {p:bq} {l:List Int} (h:ly p.blocks.length l) {s:Int} (h0:0<=s) (h1:s < p.sigs):arc p l s:=by
 refine ⟨λaR=>by unfold nv;rw [if_pos aR],λbR=>?_⟩
 unfold bq.sigs at h1 ⊢
 have hb:cK p.ins.length s < p.blocks.length:=by unfold cK;omega
 have hg:=h.get hb
 have:l.getD (cK p.ins.length s) 0=m6 l (cK p.ins.length s):=by rw [gW,hg.1,nM]
 unfold nv
 rw [if_neg (by omega),this]
 generalize hv:m6 l (cK p.ins.length s)=v at hg
 have jM:=hg.2
 generalize zn:cK p.ins.length s=bb at hb
 unfold cK fj
 omega
theorem Zy {p:bq} {l:List Int} (h:ly p.blocks.length l) {s:Int} (hu:kj p s):kj (nO p l) (nv p l s):=by
 have hr:=TY h hu.lo hu.hi
 have AO:(nO p l).sigs=p.sigs:=by unfold bq.sigs;rw [Gp];rfl
 by_cases aR:s < p.ins.length
 ·rw [hr.lo aR]
  exact ⟨hu.lo,by rw [AO];exact hu.hi,λbR _=>absurd aR (by have:(p.ins.length:Int)<=s:=bR;omega)⟩
 ·obtain ⟨g1,g2,g3,g4,g5⟩:=hr.ge (by omega)
  refine ⟨by omega,by rw [AO];exact g2,λ_ hf=>?_⟩
  obtain ⟨x,hx,gl⟩:=hu.flip (by omega) (g4.1 hf)
  refine ⟨_,?_,(show 0<=(Aq p l x).bf from gl)⟩
  show (nO p l).blocks[cK p.ins.length (nv p l s)]?=_
  rw [g3]
  exact JD h hx
theorem alo {p:bq} {l:List Int} (h:ly p.blocks.length l) (hs:Shape p):Shape (nO p l):=by
 refine ⟨by rw [Gp];exact hs.dH,?_,λs iE=>?_,hs.ins,hs.outs,λy hy=>?_,λy hy s iE=>?_,λi j x y hx hy h0 he=>?_⟩
 ·have:=hs.o5
  simpa [nO] using this
 ·obtain ⟨u,hu,rfl⟩:=j3.1 iE
  exact Zy h (hs.ay u hu)
 ·obtain ⟨b,hb⟩:=na hy
  obtain ⟨i,x,hx,rfl,rfl,hi⟩:=Gq h hb
  have:=hs.formed x (b_ hx)
  exact ⟨by simpa [Aq] using this.k,this.bZ,this.bf,by simpa [Aq] using this.table,λg=>by simpa [Aq] using this.read g⟩
 ·obtain ⟨b,hb⟩:=na hy
  obtain ⟨i,x,hx,rfl,rfl,hi⟩:=Gq h hb
  obtain ⟨u,hu,rfl⟩:=j3.1 iE
  exact Zy h (hs.used x (b_ hx) u hu)
 ·obtain ⟨a,x',uW,rfl,rfl,hi⟩:=Gq h hx
  obtain ⟨c,y',AY,rfl,rfl,hj⟩:=Gq h hy
  rw [hs.aN a c x' y' uW AY h0 he]
theorem Zz {p:bq} {l:List Int} (h:ly p.blocks.length l) (hs:Shape p) {r:Nat->Nat} (hr:jy p r):jy (nO p l) (carry p.blocks.length l 0 r):=by
 intro b y hy s iE bR lF
 obtain ⟨i,x,hx,rfl,rfl,hi⟩:=Gq h hy
 obtain ⟨u,hu,rfl⟩:=j3.1 iE
 have o8:=hs.used x (b_ hx) u hu
 have wh:=TY h o8.lo o8.hi
 have bR:(p.ins.length:Int)<=nv p l u:=bR
 have uc:(p.ins.length:Int)<=u:=by
  by_cases aR:u < p.ins.length
  ·rw [wh.lo aR] at bR;exact bR
  ·omega
 obtain ⟨g1,g2,g3,g4,g5⟩:=wh.ge uc
 show carry p.blocks.length l 0 r (cK p.ins.length (nv p l u)) < _
 rw [g3,JC h 0 r g5,JC h 0 r hi]
 exact hr i x hx u hu uc (λhf=>lF (g4.2 hf))
theorem alM {p:bq} {l:List Int} (h:ly p.blocks.length l) {K L:Nat->Int} (hK:∀i,i < p.blocks.length->L (m6 l i)=K i) {s:Int} (h0:0<=s) (h1:s < p.sigs):y7 (nO p l) L (nv p l s)=y7 p K s:=by
 have wh:=TY h h0 h1
 unfold y7
 by_cases aR:s < p.ins.length
 ·rw [wh.lo aR,if_pos aR,if_pos (show s < ((nO p l).ins.length:Int) from aR)];rfl
 ·obtain ⟨g1,g2,g3,g4,g5⟩:=wh.ge (by omega)
  have e:(nO p l).ins.length=p.ins.length:=rfl
  rw [if_neg (by rw [e];omega),if_neg aR]
  have hx:p.blocks[cK p.ins.length s]?=some p.blocks[cK p.ins.length s]:=eh g5
  have hq:=JD h hx
  have hp:(fj (nO p l).ins.length (nv p l s))=fj p.ins.length s:=propext g4
  by_cases hf:fj p.ins.length s
  ·rw [if_pos hf,if_pos (by rw [hp];exact hf)]
   unfold Hg
   rw [e,g3,hq,hx]
   rfl
  ·rw [if_neg hf,if_neg (by rw [hp];exact hf)]
   unfold E_
   rw [e,g3,hq,hx,hK _ g5]
   rfl
theorem abZ {p:bq} {r:Nat->Nat} (hr:jy p r):C_ (v8 p) (r9 p):=Tn (To hr)
theorem alN {p:bq} {l:List Int} (h:ly p.blocks.length l) (hs:Shape p) {r:Nat->Nat} (hr:jy p r) {i:Nat} (hi:i < p.blocks.length):r9 (nO p l) (m6 l i)=r9 p i:=by
 have se:=Zz h hs hr
 have atV:C_ (v8 (nO p l)) (carry p.blocks.length l 0 (r9 p)):=by
  intro b
  by_cases hb:b < p.blocks.length
  ·obtain ⟨j,hj,rfl⟩:=h.ahe hb
   rw [JC h 0 _ hj,abZ hr j]
   have hx:p.blocks[j]?=some p.blocks[j]:=eh hj
   unfold v8
   rw [hx,JD h hx]
   simp only
   show _=if 0<=(p.blocks[j]).bf then 0 else _
   split
   ·rfl
   ·unfold K_
    show ie (4 :: p.blocks[j].table :: p.blocks[j].bZ :: _)=ie (4 :: p.blocks[j].table :: p.blocks[j].bZ :: (p.blocks[j].ins.map (nv p l)).map _)
    rw [Gi]
    congr 3
    congr 1
    refine map_eq λs iE=>?_
    have o8:=hs.used _ (DH hj) s iE
    simp only [Function.comp]
    rw [alM h (λi hi=>JC h 0 _ hi) o8.lo o8.hi]
  ·rw [ans h 0 _ (by omega)]
   unfold v8
   rw [l6 (by rw [Gp];omega)]
 rw [alL (To se) (abZ se) atV,JC h 0 _ hi]
theorem SU (p:bq):(kY p).length=p.blocks.length:=by simp [kY]
theorem NP {p:bq} {i:Nat} (hi:i < p.blocks.length):(kY p)[i]?=some (CD p (r9 p) i):=by
 unfold kY;rw [mM,Gc hi];rfl
theorem alp {p:bq} {l:List Int} (h:ly p.blocks.length l) (hs:Shape p) {r:Nat->Nat} (hr:jy p r) {i:Nat} (hi:i < p.blocks.length):(kY (nO p l))[m6 l i]?=(kY p)[i]?:=by
 have hx:p.blocks[i]?=some p.blocks[i]:=eh hi
 rw [NP hi,NP (by rw [Gp];exact (h.get hi).2)]
 congr 1
 unfold CD
 rw [hx,JD h hx,alN h hs hr hi]
 rfl
theorem ab0 {p:bq} {r:Nat->Nat} (hr:jy p r) (cX:List Bool) (st:js):C_ (HJ p cX st) (CE p cX st):=Tn (anq hr cX st)
def HK (ks:List Int) (i:Nat) (x:Block):Block:={ x with key:=ks.getD i 0 }
def qV (p:bq) (ks:List Int):bq:={ p with blocks:=p.blocks.mapIdx (HK ks) }
noncomputable def rR (n:Net) (m:gE):bq:=qV (lS n m) (kY (lS n m))
def Ko (p:bq):Prop:=∀(i:Nat) (x:Block),p.blocks[i]?=some x->(kY p)[i]?=some x.key
theorem I7 {p:bq} {ks:List Int} {i:Nat} {x:Block} (h:p.blocks[i]?=some x):(qV p ks).blocks[i]?=some (HK ks i x):=by
 unfold qV;simp only [z9,h,yv]
theorem F_ {p:bq} {ks:List Int} {i:Nat} {y:Block} (h:(qV p ks).blocks[i]?=some y):∃x,p.blocks[i]?=some x/\y=HK ks i x:=by
 unfold qV at h
 simp only [z9] at h
 cases hx:p.blocks[i]? with
 | none=>rw [hx] at h;cases h
 | some x=>rw [hx] at h;cases h;exact ⟨x,rfl,rfl⟩
theorem DB (p:bq) (ks:List Int):(qV p ks).blocks.length=p.blocks.length:=by simp [qV]
theorem ZO {p:bq} {ks:List Int} {s:Int} (h:kj p s):kj (qV p ks) s:=by
 refine ⟨h.lo,?_,λa b=>?_⟩
 ·have:=h.hi
  unfold bq.sigs at this ⊢
  rw [DB]
  exact this
 ·obtain ⟨x,hx,h0⟩:=h.flip a b
  exact ⟨_,I7 hx,h0⟩
theorem alO {p:bq} {ks:List Int} (h:Shape p):Shape (qV p ks):=by
 refine ⟨by rw [DB];exact h.dH,h.o5,λs hs=>ZO (h.ay s hs),h.ins,h.outs,λy hy=>?_,λy hy s hs=>?_,λi j x y hx hy h0 he=>?_⟩
 ·obtain ⟨b,hb⟩:=na hy
  obtain ⟨x,hx,rfl⟩:=F_ hb
  have:=h.formed x (b_ hx)
  exact ⟨this.k,this.bZ,this.bf,this.table,this.read⟩
 ·obtain ⟨b,hb⟩:=na hy
  obtain ⟨x,hx,rfl⟩:=F_ hb
  exact ZO (h.used x (b_ hx) s hs)
 ·obtain ⟨x',uW,rfl⟩:=F_ hx
  obtain ⟨y',AY,rfl⟩:=F_ hy
  exact h.aN i j x' y' uW AY h0 he
theorem alq {p:bq} {ks:List Int} {r:Nat->Nat} (h:jy p r):jy (qV p ks) r:=by
 intro b y hy s hs bR lF
 obtain ⟨x,hx,rfl⟩:=F_ hy
 exact h b x hx s hs bR lF
theorem alP (p:bq) (ks:List Int):kY (qV p ks)=kY p:=by
 have ard:Hg (qV p ks)=Hg p:=by
  funext b
  unfold Hg
  cases hx:p.blocks[b]? with
  | none=>rw [l6 (by rw [DB];exact Jo.1 hx)]
  | some x=>rw [I7 hx];rfl
 have Ci:E_ (qV p ks)=E_ p:=by
  funext K b
  unfold E_
  cases hx:p.blocks[b]? with
  | none=>rw [l6 (by rw [DB];exact Jo.1 hx)]
  | some x=>rw [I7 hx];rfl
 have AO:y7 (qV p ks)=y7 p:=by
  funext K s
  unfold y7
  rw [ard,Ci]
  rfl
 have hF:v8 (qV p ks)=v8 p:=by
  funext K b
  unfold v8
  cases hx:p.blocks[b]? with
  | none=>rw [l6 (by rw [DB];exact Jo.1 hx)]
  | some x =>
   rw [I7 hx]
   simp only
   unfold K_
   rw [AO]
   rfl
 have bV:CD (qV p ks)=CD p:=by
  funext K b
  unfold CD
  cases hx:p.blocks[b]? with
  | none=>rw [l6 (by rw [DB];exact Jo.1 hx)]
  | some x=>rw [I7 hx];rfl
 unfold kY r9
 rw [DB,bV,hF]
theorem alQ (p:bq):Ko (qV p (kY p)):=by
 intro i y hy
 obtain ⟨x,hx,rfl⟩:=F_ hy
 rw [alP]
 have hi:=(bX.1 hx).1
 show _=some ((kY p).getD i 0)
 rw [gW,NP hi]
 rfl
theorem Tp {n:Net} {m:gE} (hn:eQ n) (hm:jz n m):Shape (rR n m)/\jy (rR n m) (Hf (lS n m))/\Ko (rR n m):=by
 obtain ⟨h1,h2⟩:=ac6 hn hm
 exact ⟨alO h1,alq h2,alQ _⟩
theorem alr {p:bq} {l:List Int} (h:ly p.blocks.length l) (hs:Shape p) {r:Nat->Nat} (hr:jy p r) (hk:Ko p):Ko (nO p l):=by
 intro b y hy
 obtain ⟨i,x,hx,rfl,rfl,hi⟩:=Gq h hy
 rw [alp h hs hr hi,hk i x hx]
 rfl
def jJ (p:bq):List Int:=p.blocks.map (·.key)
def yy (p:bq):Prop:=(jJ p).Nodup
def Bh (p:bq) (k:Int):Nat:=(jJ p).idxOf k
def rv (p q:bq) (s:Int):Int :=
 if s < q.ins.length then s else p.ins.length+2*(Bh p (q.blocks.getD (cK q.ins.length s) Fb).key:Int)+(s - q.ins.length) % 2
def Hh (p q:bq) (y:Block):Prop:=∃x,p.blocks[Bh p y.key]?=some x/\x.table=y.table/\x.bZ=y.bZ/\x.bf=y.bf/\x.ins=y.ins.map (rv p q)
structure Hi (p q:bq):Prop where
 ins:p.ins=q.ins
 outs:p.outs=q.outs
 len:p.blocks.length=q.blocks.length
 mem:∀y∈q.blocks,y.key∈jJ p
 qd:yy q
 pd:yy p
 Xc:∀y∈q.blocks,Hh p q y
 ay:p.ay=q.ay.map (rv p q)
theorem aaW {l:List Int} (h:l.Nodup) {i j:Nat} {k:Int} (hi:l[i]?=some k) (hj:l[j]?=some k):i=j:=by
 rw [Jn,Jp] at h
 obtain ⟨il,e1⟩:=bX.1 hi
 obtain ⟨jl,e2⟩:=bX.1 hj
 cases Si i j with
 | inl aR=>exact absurd (e1.trans e2.symm) (h i j il jl aR)
 | inr bR=>cases bR with
  | inl he=>exact he
  | inr aR=>exact absurd (e2.trans e1.symm) (h j i jl il aR)
theorem Uy {p:bq} (h:yy p) {i:Nat} {x:Block} (hx:p.blocks[i]?=some x):Bh p x.key=i:=by
 have hk:(jJ p)[i]?=some x.key:=by unfold jJ;rw [mM,hx];rfl
 have hm:x.key∈jJ p:=b_ hk
 have hi:(jJ p).idxOf x.key < (jJ p).length:=List.idxOf_lt_length_iff.2 hm
 have:(jJ p)[(jJ p).idxOf x.key]?=some x.key:=by rw [eh hi,List.getElem_idxOf]
 exact aaW h this hk
theorem aaX {p:bq} (hd:yy p) {s:Int} (h0:0<=s) (h1:s < p.sigs):rv p p s=s:=by
 unfold rv
 unfold bq.sigs at h1
 split
 ·rfl
 ·have hb:cK p.ins.length s < p.blocks.length:=by unfold cK;omega
  have hx:p.blocks[cK p.ins.length s]?=some p.blocks[cK p.ins.length s]:=eh hb
  rw [gW,hx,nM,Uy hd hx]
  unfold cK;omega
theorem amv {p:bq} (hs:Shape p):Hi p p↔yy p:=by
 refine ⟨λg=>g.pd,λhd=>⟨rfl,rfl,rfl,λy hy=>j3.2 ⟨y,hy,rfl⟩,hd,hd,λx hx=>?_,?_⟩⟩
 ·obtain ⟨i,hi⟩:=na hx
  refine ⟨x,by rw [Uy hd hi];exact hi,rfl,rfl,rfl,?_⟩
  have:x.ins=x.ins.map id:=by simp
  conv=>lhs;rw [this]
  refine map_eq λs iE=>?_
  have hu:=hs.used x hx s iE
  exact (aaX hd hu.lo hu.hi).symm
 ·have:p.ay=p.ay.map id:=by simp
  conv=>lhs;rw [this]
  refine map_eq λs iE=>?_
  have hu:=hs.ay s iE
  exact (aaX hd hu.lo hu.hi).symm
def afg (p:bq) (c d:Nat):Prop:=∃x,p.blocks[c]?=some x/\∃s∈x.ins,(p.ins.length:Int)<=s/\¬fj p.ins.length s/\cK p.ins.length s=d
def St (st:List Int) (v:Int) (c:Nat):Prop:=st[c]?=some v
theorem St.q9 {st:List Int} {v u:Int} {b c:Nat} (h:c≠b):St (st.set b u) v c↔St st v c:=by
 unfold St;rw [iT];split
 ·omega
 ·exact w7
theorem St.Ar {st:List Int} {v u:Int} {b:Nat} (h:b < st.length):St (st.set b u) v b↔u=v:=by
 unfold St;rw [iT];simp [h]
theorem St.lt {st:List Int} {v:Int} {c:Nat} (h:St st v c):c < st.length:=(bX.1 h).1
theorem St.uniq {st:List Int} {v u:Int} {c:Nat} (h:St st v c) (k:St st u c):v=u:=by unfold St at *;rw [h] at k;exact BK k
def lz (st:List Int):Nat:=st.countP (· == 0)
theorem aaY {st:List Int} {b:Nat} {v:Int} (h:St st 0 b) (hv:v≠0):lz (st.set b v)+1=lz st:=by
 unfold lz St at *
 induction st generalizing b with
 | nil=>simp at h
 | cons x l ih =>
  cases b with
  | zero=>simp at h;subst h;simp [DI,hv]
  | succ b =>
   have:=ih (b:=b) (by simpa using h)
   simp only [Gd,DI]
   omega
theorem SW {st:List Int} {b:Nat} (h:St st 0 b):0 < lz st:=by
 have:=aaY h (v:=1) (by decide)
 omega
theorem alR {st:List Int} {b:Nat} {u v:Int} (h:St st u b) (hu:u≠0) (hv:v≠0):lz (st.set b v)=lz st:=by
 unfold lz St at *
 induction st generalizing b with
 | nil=>simp at h
 | cons x l ih =>
  cases b with
  | zero=>simp at h;subst h;simp [DI,hu,hv]
  | succ b =>
   have:=ih (b:=b) (by simpa using h)
   simp only [Gd,DI]
   omega
def sQ (p:bq) (st:List Int):Prop:=∃r:Nat->Nat,∀c d,St st 2 c->afg p c d->St st 2 d/\r d < r c
theorem sQ.nil {p:bq} {st:List Int} (h:∀c,¬St st 2 c):sQ p st:=⟨λ_=>0,λc d hc=>absurd hc (h c)⟩
theorem bound {l:List Nat} (r:Nat->Nat):∃m,∀d∈l,r d < m:=by
 induction l with
 | nil=>exact ⟨0,by simp⟩
 | cons x l ih =>
  obtain ⟨m,hm⟩:=ih
  refine ⟨m+r x+1,λd hd=>?_⟩
  rcases er.1 hd with rfl|hd
  ·omega
  ·have:=hm d hd;omega
theorem sQ.done {p:bq} {st:List Int} (h:sQ p st) {b:Nat} (hb:St st 1 b) (dK:∀d,afg p b d->St st 2 d):sQ p (st.set b 2):=by
 obtain ⟨r,hr⟩:=h
 have aR:=hb.lt
 obtain ⟨m,hm⟩:=bound (l:=List.range st.length) r
 refine ⟨λc=>if c=b then m else r c,λc d hc ht=>?_⟩
 by_cases gn:c=b
 ·subst gn
  have hd:=dK d ht
  have FK:d≠c:=by rintro rfl;have:=hd.uniq hb;omega
  exact ⟨(St.q9 FK).2 hd,by simp only [if_neg FK,if_true];exact hm d (tr.2 hd.lt)⟩
 ·have h2:=hr c d ((St.q9 gn).1 hc) ht
  have FK:d≠b:=by rintro rfl;have:=h2.1.uniq hb;omega
  exact ⟨(St.q9 FK).2 h2.1,by simp only [if_neg FK,if_neg gn];exact h2.2⟩
theorem sQ.mark {p:bq} {st:List Int} (h:sQ p st) {b:Nat} (hb:St st 0 b):sQ p (st.set b 1):=by
 obtain ⟨r,hr⟩:=h
 have aR:=hb.lt
 refine ⟨r,λc d hc ht=>?_⟩
 have gn:c≠b:=by rintro rfl;have:=(St.Ar aR).1 hc;omega
 have h2:=hr c d ((St.q9 gn).1 hc) ht
 have FK:d≠b:=by rintro rfl;have:=h2.1.uniq hb;omega
 exact ⟨(St.q9 FK).2 h2.1,h2.2⟩
structure wI (p:bq) (st:List Int):Prop where
 len:st.length=p.blocks.length
 val:∀c v,St st v c->v=0\/v=1\/v=2
structure oY (p:bq) (st:List Int) (b:Nat) (res:Bool) (gA:List Int):Prop where
 w:wI p gA
 z:lz gA<=lz st
 one:res=true->∀c,St gA 1 c↔St st 1 c
 two:res=true->(∀c,St st 2 c->St gA 2 c)/\St gA 2 b
 Bi:res=true->sQ p st->sQ p gA
 rk:∀r,jy p r->(∀c,St st 1 c->r b < r c)->res=true
theorem oY.are {p:bq} {st:List Int} {b:Nat} (h:wI p st) (hb:St st 1 b):oY p st b false st :=
 ⟨h,cP _,by simp,by simp,by simp,λr _ h=>absurd (h b hb) (Nq _)⟩
theorem oY.Ck {p:bq} {st:List Int} {b:Nat} (h:wI p st) (hb:St st 2 b):oY p st b true st :=
 ⟨h,cP _,λ_ _=>w7,λ_=>⟨λ_ h=>h,hb⟩,λ_ h=>h,λ_ _ _=>rfl⟩
structure oJ (p:bq) (st:List Int) (b:Nat) (x:Block) (j:Nat) (gA:List Int):Prop where
 le:j<=x.ins.length
 w:wI p gA
 z:lz gA+1<=lz st
 one:∀c,St gA 1 c↔St st 1 c\/c=b
 two:∀c,St st 2 c->St gA 2 c
 Bi:sQ p st->sQ p gA
 ins:∀i s,i < j->x.ins[i]?=some s->(p.ins.length:Int)<=s->¬fj p.ins.length s->St gA 2 (cK p.ins.length s)
theorem oJ.start {p:bq} {st:List Int} {b:Nat} (h:wI p st) (hb:St st 0 b) (x:Block):oJ p st b x 0 (st.set b 1):=by
 have aR:=hb.lt
 refine ⟨cJ _,⟨by simp [h.len],λc v hc=>?_⟩,by have:=aaY hb (v:=1) (by decide);omega,λc=>?_,λc hc=>?_,λha=>ha.mark hb,λi s hi=>by omega⟩
 ·by_cases gn:c=b
  ·subst gn;have:=(St.Ar aR).1 hc;omega
  ·exact h.val c v ((St.q9 gn).1 hc)
 ·by_cases gn:c=b
  ·subst gn;exact ⟨λ_=>.inr rfl,λ_=>(St.Ar aR).2 rfl⟩
  ·rw [St.q9 gn];exact ⟨.inl,λh=>h.resolve_right gn⟩
 ·have gn:c≠b:=by rintro rfl;have:=hc.uniq hb;omega
  exact (St.q9 gn).2 hc
theorem oJ.skip {p:bq} {st:List Int} {b:Nat} {x:Block} {j:Nat} {gA:List Int} (h:oJ p st b x j gA) {s:Int} (hs:x.ins[j]?=some s) (hn:¬((p.ins.length:Int)<=s/\¬fj p.ins.length s)):oJ p st b x (j+1) gA :=
 ⟨(
  bX.1 hs).1,h.w,h.z,h.one,h.two,h.Bi,λi t hi ht h1 h2=>by
  by_cases zh:i=j
  ·subst zh;rw [hs] at ht;cases ht;exact absurd ⟨h1,h2⟩ hn
  ·exact h.ins i t (by omega) ht h1 h2⟩
theorem oJ.go {p:bq} {st:List Int} {b:Nat} {x:Block} {j:Nat} {gA gR:List Int} (h:oJ p st b x j gA) {s:Int} (hs:x.ins[j]?=some s) (hb:St st 0 b) (k:oY p gA (cK p.ins.length s) true gR):oJ p st b x (j+1) gR:=by
 refine ⟨(bX.1 hs).1,k.w,by have:=k.z;have:=h.z;omega,λc=>by rw [k.one rfl c];exact h.one c,λc hc=>(k.two rfl).1 c (h.two c hc),λha=>k.Bi rfl (h.Bi ha),λi t hi ht h1 h2=>?_⟩
 by_cases zh:i=j
 ·subst zh;rw [hs] at ht;cases ht;exact (k.two rfl).2
 ·exact (k.two rfl).1 _ (h.ins i t (by omega) ht h1 h2)
theorem oJ.bad {p:bq} {st:List Int} {b:Nat} {x:Block} {j:Nat} {gA gR:List Int} (h:oJ p st b x j gA) (hx:p.blocks[b]?=some x) {s:Int} (hs:x.ins[j]?=some s) (h1:(p.ins.length:Int)<=s) (h2:¬fj p.ins.length s) (k:oY p gA (cK p.ins.length s) false gR):oY p st b false gR :=
 ⟨k.w,by have:=k.z;have:=h.z;omega,by simp,by simp,by simp,λr hr hc=>k.rk r hr λc k9=>by
  have aR:=hr b x hx s (b_ hs) h1 h2
  rcases (h.one c).1 k9 with h3|rfl
  ·have:=hc c h3;omega
  ·exact aR⟩
theorem oJ.out {p:bq} {st:List Int} {b:Nat} {x:Block} {j:Nat} {gA:List Int} (h:oJ p st b x j gA) (hx:p.blocks[b]?=some x) (hb:St st 0 b) (hj:j=x.ins.length):oY p st b true (gA.set b 2):=by
 have h1:St gA 1 b:=(h.one b).2 (.inr rfl)
 have aR:=h1.lt
 refine ⟨⟨by simp [h.w.len],λc v hc=>?_⟩,by have:=alR h1 (v:=2) (by decide) (by decide);have:=h.z;omega,λ_ c=>?_,λ_=>⟨λc hc=>?_,(St.Ar aR).2 rfl⟩,λ_ ha=>(h.Bi ha).done h1 ?_,λ_ _ _=>rfl⟩
 ·by_cases gn:c=b
  ·subst gn;have:=(St.Ar aR).1 hc;omega
  ·exact h.w.val c v ((St.q9 gn).1 hc)
 ·by_cases gn:c=b
  ·subst gn
   exact ⟨λh=>by have:=(St.Ar aR).1 h;omega,λh=>by have:=h.uniq hb;omega⟩
  ·rw [St.q9 gn,h.one c];exact ⟨λh=>h.resolve_right gn,.inl⟩
 ·have gn:c≠b:=by rintro rfl;have:=hc.uniq hb;omega
  exact (St.q9 gn).2 (h.two c hc)
 ·rintro d ⟨y,hy,s,hs,h3,h4,rfl⟩
  rw [hx] at hy;cases hy
  obtain ⟨i,hi,e⟩:=z8.1 hs
  exact h.ins i s (by omega) (by rw [eh hi,e]) h3 h4
def tf:TypeId->Option TI
 | 180=>some (ti .other 1 8 .nilFunc)
 | 183=>some (ti .other 1 8 .nilFunc)
 | 187=>some (ti .other 1 8 .nilFunc)
 | 194=>some (ti .other 1 8 .nilFunc)
 | 195=>some (ti .other 1 8 .nilFunc)
 | 200=>some (ti .other 1 8 .nilFunc)
 | 268=>some (ti .other 1 8 .nilFunc)
 | 293=>some (ti (.ptr 298) 1 8 (.pointer none))
 | 299=>some (ti .other 1 8 .nilFunc)
 | 303=>some (ti .other 1 8 .nilFunc)
 | 305=>some (ti .other 1 8 .nilFunc)
 | 310=>some (ti .other 1 8 .nilFunc)
 | 313=>some (ti .other 1 8 .nilFunc)
 | 319=>some (ti (.ptr 199) 1 8 (.pointer none))
 | 360=>some (ti .other 1 8 .nilFunc)
 | 406=>some (ti .other 1 8 .nilFunc)
 | 414=>some (ti .other 1 8 .nilFunc)
 | _=>none
theorem arf:∀t i,tf t=some i->oZ Tryz.prog t i:=by
 intro t i h
 unfold tf at h
 split at h
 all_goals cases h
 all_goals exact tiN rfl rfl (by kernel_rfl) (by kernel_rfl)
def t2 (t:TypeId):Option TI:=match tt t with
 | some i=>some i
 | none=>tf t
theorem arh:∀t i,t2 t=some i->oZ Tryz.prog t i:=by
 intro t i h
 unfold t2 at h
 split at h
 ·rename_i j hj
  cases h
  exact aeR t _ hj
 ·exact arf t i h
theorem apT (n m:Nat) (X:Ctx) (h:X.tt=t2) (t:TypeId) (E:iZ) (he:el n m t=some E):J7 Tryz.prog X t E:=adF (λt i h=>by unfold t2;rw [h]) n m X h t E he
@[reducible] def eB (n m:Nat) (fs:List (Nat × Func)) (sp:List (Nat × Vc.Spec)) (io lp cut row emp:List Nat:=[]):Ctx:=XI t2 (el n m) fs sp io lp cut row emp
theorem eD (n m:Nat) {fs:List (Nat × Func)} {sp:List (Nat × Vc.Spec)} {io lp cut row emp:List Nat} (hf:CU (λf fn=>nP (PP ()) f fn/\pJ fn=true) fs) (hs:CU (λf S=>cS (PP ()) f S) sp):CB PP (eB n m fs sp io lp cut row emp):=aeQ arh (apT n m) mixed hf hs
def fq (p:bq):List SV:=[.sl 3 dc (λ_=>p.ins),.sl 5 oe (λ_=>p.blocks),.sl 3 dc (λ_=>p.outs),.sl 1 bJ (λ_=>p.ay)]
theorem km (p:bq):dm (fq p):=⟨λx=>(gL x).1,λx=>(Jj x).1,λx=>(gL x).1,λx=>(cM x).1,trivial⟩
structure xm (p:bq):Prop where
 dH:p.blocks.length<=600
 ins:p.ins.length<=1000000
 used:∀x∈p.blocks,∀s∈x.ins,0<=s/\s < p.sigs
 k:∀x∈p.blocks,x.ins.length<=1000000
structure atW where
 p:bq
 st:List Int
 b:Int
structure apU where
 res:Bool
 st:List Int
@[reducible] noncomputable def TZ (n:Nat):mP where
 α:=atW
 args x:=[.i .i64 (λ_=>x.b),.ptr 0 0,.ptr 2 0,.ptr 3 0,.ptr 4 0]
 io x:=[.fix 35 [.own 1],.dyn 3 1 bJ (λ_=>x.st),.fix 179 (fq x.p),.fix 180 [.fn (.func 179) [] [.ptr 0 0,.ptr 2 0,.ptr 3 0,.ptr 4 0]],.fix 187 [.fn (.func 89) [] []]]
 pre x:=xm x.p/\wI x.p x.st/\0<=x.b/\x.b < x.p.blocks.length/\lz x.st<=n
 β:=apU
 post x y:=oY x.p x.st x.b.toNat y.res y.st
 mv:=[]
 res x y:=.b (λ_=>y.res)
 j8 x y:=[.fix 35 [.own 1],.dyn 3 1 bJ (λ_=>y.st),.fix 179 (fq x.p),.fix 180 [.fn (.func 179) [] [.ptr 0 0,.ptr 2 0,.ptr 3 0,.ptr 4 0]],.fix 187 [.fn (.func 89) [] []]]
noncomputable def atX (n m:Nat):Ctx:=eB n m [(94,Tryz.f94),(89,Tryz.f89),(179,Tryz.f179)] [] [179]
theorem ad5 (n m:Nat):CB PP (atX n m):=eD n m ⟨fo Tryz.func94,fo Tryz.func89,fo Tryz.func179,trivial⟩ trivial
theorem ZP (n:Nat) (ih:∀m,m+1=n->iC PP 179 (TZ m)):iC PP 179 (TZ n):=by
 refine mA (ad5 0 0) (fo Tryz.func179) (λa y=>rfl) (λa=>⟨rfl,rfl⟩) .nil ?_
 rintro ⟨⟨ins,blocks,outs,ay⟩,st,b⟩ hx
 obtain ⟨hp,cG,eb,dW,hz⟩:xm ⟨ins,blocks,outs,ay⟩/\wI ⟨ins,blocks,outs,ay⟩ st/\0<=b/\b < blocks.length/\lz st<=n:=hx
 have ahf:st.length=blocks.length:=cG.len
 have jb:0<=b/\b.toNat < st.length:=by omega
 obtain ⟨v,hv⟩:=bz jb.2
 refine ⟨?_⟩
 cbv
 refine ⟨⟨jb⟩,v,⟨hv,rfl⟩,?_⟩
 cbv
 refine ⟨λh=>?_,λh=>?_⟩
 ·have pX:v=1:=bE
  have bV:oY ⟨ins,blocks,outs,ay⟩ st b.toNat false st:=.are cG (by rw [<-pX];exact hv)
  cbv
  exact ⟨⟨false,st⟩,[],[],⟨by exact aJ,trivial⟩,by exact ao,⟨bV⟩⟩
 ·have pX:v≠1:=bE
  cbv
  refine ⟨λh=>?_,λh=>?_⟩
  ·have jM:v=2:=bE
   have bV:oY ⟨ins,blocks,outs,ay⟩ st b.toNat true st:=.Ck cG (by rw [<-jM];exact hv)
   cbv
   exact ⟨⟨true,st⟩,[],[],⟨by exact aJ,trivial⟩,by exact ao,⟨bV⟩⟩
  ·have jM:v≠2:=bE
   have h_:St st 0 b.toNat:=by
    have:=cG.val _ _ hv
    have e:v=0:=by omega
    rw [<-e];exact hv
   have QN:=SW h_
   refine (⟨n - 1,by omega⟩:∃m,m+1=n).elim λm hm=>?_
   have ih:=ih m hm
   refine (bz (l:=blocks) (i:=b.toNat) (by omega)).elim λx hx=>?_
   have gP:=b_ hx
   have yc:∀s∈x.ins,0<=s/\s < (ins.length:Int)+2*blocks.length:=hp.used x gP
   have lY:=hp.k x gP
   have oA:blocks.length<=600:=hp.dH
   have P6:ins.length<=1000000:=hp.ins
   have tc:=oJ.start cG h_ x
   cbv
   refine ⟨⟨jb⟩,?_⟩
   cbv
   refine ⟨(v,1),⟨hv,rfl,by exact aJ⟩,?_⟩
   cbv
   refine ⟨x,⟨eb,hx⟩,?_⟩
   cbv
   refine Sat.ca (ad5 0 0) 5 7 [] (λy:Nat × List Int=>[(28,.sl 1 bJ (λ_=>x.ins)),(29,.i .i64 (λ_=>(x.ins.length:Int))),(30,.i .i64 λ_=>(y.1:Int))]) (λy=>[(1,.dyn 3 1 bJ λ_=>y.2)])
    (λy=>oJ ⟨ins,blocks,outs,ay⟩ st b.toNat x y.1 y.2) (λy=>x.ins.length - y.1) (0,st.set b.toNat 1) (by exact ao) (by exact ao) tc ?_
   rintro ⟨j,gR⟩ hJ
   have hJ:oJ ⟨ins,blocks,outs,ay⟩ st b.toNat x j gR:=hJ
   have eA:=hJ.le
   have iG:=n0 j
   have u9:=cd (i:=j) (by omega)
   cbv
   refine ⟨λh=>?_,λh=>?_⟩
   ·have uQ:j < x.ins.length:=bE
    have a7:x.ins.length - (j+1) < x.ins.length - j:=by omega
    refine (bz uQ).elim λs hs=>?_
    have p8:=yc s (b_ hs)
    cbv
    refine ⟨s,⟨iG,hs⟩,?_⟩
    cbv
    refine ⟨λh=>?_,λh=>?_⟩
    ·have aR:s < (ins.length:Int):=bE
     have bw:=hJ.skip hs (λh=>by have:=h.1;simp only at this;omega)
     cbv
     exact ⟨(j+1,gR),by exact ao,by exact ao,⟨⟨bw,a7⟩⟩⟩
    ·have bR:(ins.length:Int)<=s:=bE
     have p8:0<=s/\s < (ins.length:Int)+2*(blocks.length:Int):=p8
     refine (⟨_,rfl⟩:∃d:Nat,cK ins.length s=d).elim λd hd=>?_
     have fB:IntKind.i64.wrap (s - (ins.length:Int))=s - (ins.length:Int):=cz (by omega) (by omega)
     have qI:(s - (ins.length:Int)) / 2=(d:Int):=by rw [<-hd];unfold cK;omega
     have hc:IntKind.i64.wrap ((IntKind.i64.wrap (s - (ins.length:Int))).tdiv 2)=(d:Int):=by
      rw [fB,zX (by omega),qI];exact cz (by omega) (by omega)
     have hm:(IntKind.i64.wrap (s - (ins.length:Int))).tmod 2=(s - (ins.length:Int)) % 2:=by
      rw [fB,w8 (by omega)]
     have fO:d < blocks.length:=by omega
     cbv
     refine ⟨⟨by decide⟩,⟨by decide⟩,λh=>?_,λh=>?_⟩
     ·cbv
      refine ⟨λh=>?_,λh=>?_⟩
      ·have lF:¬fj ins.length s:=by
        have h':(!aV ((IntKind.i64.wrap (s - (ins.length:Int))).tmod 2) 1)=true:=h.out
        rw [hm] at h'
        unfold fj
        simpa [aV] using h'
       have e9:wI ⟨ins,blocks,outs,ay⟩ gR/\0<=(d:Int)/\(d:Int) < blocks.length/\lz gR<=m:=⟨hJ.w,by omega,by omega,by have:=hJ.z;omega⟩
       cbv
       refine bU.jD ih (λa y=>trivial) ⟨⟨ins,blocks,outs,ay⟩,gR,d⟩ [0,1,2,3,4] rfl (by exact bP) (by exact ao) ⟨⟨hp,e9⟩⟩ λy hy=>?_
       have hy:oY ⟨ins,blocks,outs,ay⟩ gR d y.res y.st:=hy.out
       obtain ⟨res,la⟩:=y
       cbv
       refine ⟨λh=>?_,λh=>?_⟩
       ·have hr:res=false:=by have h':(!res)=true:=h.out;simpa using h'
        subst hr
        have bV:=hJ.bad hx hs bR lF (by rw [show cK ins.length s=d from hd];exact hy)
        cbv
        exact ⟨⟨false,la⟩,[],[],⟨by exact aJ,trivial⟩,by exact ao,⟨bV⟩⟩
       ·have hr:res=true:=by have h':(!res)=false:=h.out;simpa using h'
        subst hr
        have bw:=hJ.go hs h_ (by rw [show cK ins.length s=d from hd];exact hy)
        cbv
        exact ⟨(j+1,la),by exact ao,by exact ao,⟨⟨bw,a7⟩⟩⟩
      ·have lF:fj ins.length s:=by
        have h':(!aV ((IntKind.i64.wrap (s - (ins.length:Int))).tmod 2) 1)=false:=h.out
        rw [hm] at h'
        unfold fj
        simpa [aV] using h'
       have bw:=hJ.skip hs (λh=>h.2 lF)
       cbv
       exact ⟨(j+1,gR),by exact ao,by exact ao,⟨⟨bw,a7⟩⟩⟩
     ·exfalso
      have h':cR 0 (IntKind.i64.wrap ((IntKind.i64.wrap (s - (ins.length:Int))).tdiv 2))=false:=h.out
      rw [hc] at h'
      simp only [cR,decide_eq_false_iff_not] at h'
      exact aU
   ·have nV:j=x.ins.length:=by
     have h':aS j x.ins.length=false:=h.out
     have h2:¬(j:Int) < x.ins.length:=by simpa [aS] using h'
     omega
    have bV:=hJ.out hx h_ nV
    refine (⟨_,rfl⟩:∃l,gR.set b.toNat 2=l).elim λla h3=>?_
    rw [h3] at bV
    have CF:0<=b/\b.toNat < gR.length:=by have:=hJ.w.len;simp only at this;omega
    refine (bz CF.2).elim λu hu=>?_
    cbv
    refine ⟨⟨CF⟩,?_⟩
    cbv
    refine ⟨(u,2),⟨hu,rfl,by exact aJ⟩,?_⟩
    cbv
    exact ⟨⟨true,la⟩,[],[],⟨by exact aJ,trivial⟩,by have dM:=h3;exact bH,⟨bV⟩⟩
theorem aaZ:∀n,iC PP 179 (TZ n)
 | 0=>ZP 0 λm h=>by omega
 | n+1=>ZP (n+1) λm h=>by
  cases SF h
  exact aaZ n
structure X5 where
 p:bq
 s:Int
open Classical in
noncomputable def oa (p:bq) (s:Int):Bool:=decide (kj p s)
theorem RU {p:bq} {s:Int}:oa p s=true↔kj p s:=by simp [oa]
structure Ee (p:bq):Prop where
 dH:p.blocks.length<=1000000
 ins:p.ins.length<=1000000
@[reducible] noncomputable def N6:Vc.Spec where
 α:=X5
 args x:=[.agg (fq x.p),.i .i64 (λ_=>x.s)]
 pre x:=Ee x.p
 res x:=.b (λ_=>oa x.p x.s)
noncomputable def cUs (n m:Nat):Ctx:=eB n m [(94,Tryz.f94),(98,Tryz.f98)] []
theorem ari (n m:Nat):CB PP (cUs n m):=eD n m ⟨fo Tryz.func94,fo Tryz.func98,trivial⟩ trivial
theorem amw:cS (PP ()) 81 N6:=by
 refine dP (ari 0 0) (fo Tryz.func81) (λa=>⟨km a.p,trivial,trivial⟩) (λa=>trivial) ?_
 rintro ⟨⟨ins,blocks,outs,ay⟩,s⟩ hx
 obtain ⟨hb,hi⟩:Ee ⟨ins,blocks,outs,ay⟩:=hx
 have hb:blocks.length<=1000000:=hb
 have hi:ins.length<=1000000:=hi
 have QQ:IntKind.i64.wrap (2*(blocks.length:Int))=2*(blocks.length:Int):=cz (by omega) (by omega)
 have dx:IntKind.i64.wrap ((ins.length:Int)+IntKind.i64.wrap (2*(blocks.length:Int)))=(ins.length:Int)+2*(blocks.length:Int):=by rw [QQ];exact cz (by omega) (by omega)
 obtain ⟨u,hu⟩:∃u,oa ⟨ins,blocks,outs,ay⟩ s=u:=⟨_,rfl⟩
 have F:¬kj ⟨ins,blocks,outs,ay⟩ s->false=oa ⟨ins,blocks,outs,ay⟩ s:=λh=>by simp [oa,h]
 have T:kj ⟨ins,blocks,outs,ay⟩ s->true=oa ⟨ins,blocks,outs,ay⟩ s:=λh=>by simp [oa,h]
 refine ⟨?_⟩
 cbv
 refine ⟨λh=>?_,λh=>?_⟩
 ·have h0:s < 0:=bE
  have e:=F λh=>by have:=h.lo;omega
  cbv
  exact ⟨by exact aJ⟩
 ·have h0:0<=s:=bE
  cbv
  refine ⟨λh=>?_,λh=>?_⟩
  ·have h1:(ins.length:Int)+2*(blocks.length:Int)<=s:=by
    have h':cR (IntKind.i64.wrap ((ins.length:Int)+IntKind.i64.wrap (2*(blocks.length:Int)))) s=true:=h.out
    rw [dx] at h'
    simpa [cR] using h'
   have e:=F λh=>by have:=h.hi;unfold bq.sigs at this;simp only at this;omega
   cbv
   exact ⟨by exact aJ⟩
  ·have h1:s < (ins.length:Int)+2*(blocks.length:Int):=by
    have h':cR (IntKind.i64.wrap ((ins.length:Int)+IntKind.i64.wrap (2*(blocks.length:Int)))) s=false:=h.out
    rw [dx] at h'
    simpa [cR] using h'
   have gy:s < bq.sigs ⟨ins,blocks,outs,ay⟩:=by unfold bq.sigs;simp only;omega
   cbv
   refine ⟨λh=>?_,λh=>?_⟩
   ·have aR:s < (ins.length:Int):=bE
    have e:=T ⟨h0,gy,λh=>by simp only at h;omega⟩
    cbv
    exact ⟨by exact aJ⟩
   ·have bR:(ins.length:Int)<=s:=bE
    have h1:s < (ins.length:Int)+2*(blocks.length:Int):=h1
    have fB:IntKind.i64.wrap (s - (ins.length:Int))=s - (ins.length:Int):=cz (by omega) (by omega)
    have hc:IntKind.i64.wrap ((IntKind.i64.wrap (s - (ins.length:Int))).tdiv 2)=(cK ins.length s:Int):=by
     have qI:(s - (ins.length:Int)) / 2=(cK ins.length s:Int):=by unfold cK;omega
     rw [fB,zX (by omega),qI]
     exact cz (by unfold cK;omega) (by unfold cK;omega)
    have hm:(IntKind.i64.wrap (s - (ins.length:Int))).tmod 2=(s - (ins.length:Int)) % 2:=by
     rw [fB,w8 (by omega)]
    have fO:cK ins.length s < blocks.length:=by unfold cK;omega
    refine (bz fO).elim λx hx=>?_
    have gx:0<=IntKind.i64.wrap ((IntKind.i64.wrap (s - (ins.length:Int))).tdiv 2)/\blocks[(IntKind.i64.wrap ((IntKind.i64.wrap (s - (ins.length:Int))).tdiv 2)).toNat]?=some x:=by
     rw [hc];exact ⟨by omega,by simpa using hx⟩
    cbv
    refine ⟨⟨by decide⟩,⟨by decide⟩,λh=>?_,λh=>?_⟩
    ·have lF:¬fj ins.length s:=by
      have h':(!aV ((IntKind.i64.wrap (s - (ins.length:Int))).tmod 2) 1)=true:=h.out
      rw [hm] at h'
      unfold fj
      simpa [aV] using h'
     have e:=T ⟨h0,gy,λ_ h=>absurd h lF⟩
     cbv
     exact ⟨by exact aJ⟩
    ·have hf:fj ins.length s:=by
      have h':(!aV ((IntKind.i64.wrap (s - (ins.length:Int))).tmod 2) 1)=false:=h.out
      rw [hm] at h'
      unfold fj
      simpa [aV] using h'
     have e:cR 0 x.bf=oa ⟨ins,blocks,outs,ay⟩ s:=by
      by_cases hr:0<=x.bf
      ·rw [<-T ⟨h0,gy,λ_ _=>⟨x,hx,hr⟩⟩];simp [cR,hr]
      ·rw [<-F λh=>by obtain ⟨y,hy,Ft⟩:=h.flip bR hf;simp only at hy;rw [hx] at hy;cases hy;exact hr Ft];simp [cR,hr]
     cbv
     refine ⟨x,⟨gx⟩,?_⟩
     cbv
     exact ⟨by exact aJ⟩
end Go.Proofs.Pk
