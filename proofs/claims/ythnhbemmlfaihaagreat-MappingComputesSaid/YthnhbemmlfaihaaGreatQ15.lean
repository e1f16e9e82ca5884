import Derived.Test.YthnhbemmlfaihaaGreatQ11
import Derived.Test.YthnhbemmlfaihaaGreatQ12
import Derived.Test.YthnhbemmlfaihaaGreatQ13
import Derived.Test.YthnhbemmlfaihaaGreatQ14
set_option linter.unusedVariables false
set_option linter.unusedSimpArgs false
set_option maxRecDepth 10000
set_option maxHeartbeats 64000000
namespace Go.Proofs.Pk
open Go Go.Vc
@[reducible] noncomputable def LzS:Vc.Spec where
 α:=Int
 args x:=[.i .u64 (λ_=>x)]
 pre x:=x=0
 res _:=.i .i64 (λ_=>0)
noncomputable def cLz (n m:Nat):Ctx:=dH n m [] []
theorem aqi (n m:Nat):CB PP (cLz n m):=dK n m trivial trivial
theorem aqj:cR (PP ()) 319 LzS:=by
 refine et (aqi 0 0) (fo Tryz.func319) (λa=>⟨trivial,trivial⟩) (λa=>trivial) ?_
 intro x hx
 obtain rfl:x=0:=hx
 refine ⟨?_⟩
 cbv
 refine ⟨λh=>?_,λ_=>?_⟩
 ·have h':(4294967296:Int)<=0:=aH
  cases (show False from absurd h' (by decide))
 cbv
 refine ⟨λh=>?_,λ_=>?_⟩
 ·have h':(65536:Int)<=0:=aH
  cases (show False from absurd h' (by decide))
 cbv
 refine ⟨λh=>?_,λ_=>?_⟩
 ·have h':(256:Int)<=0:=aH
  cases (show False from absurd h' (by decide))
 have e1:0<=IntKind.u8.wrap 0/\(IntKind.u8.wrap 0).toNat < 256:=by decide
 have e2:(IntKind.u8.wrap 0).toNat=0:=by decide
 have e3:IntKind.i64.wrap (0+IntKind.i64.wrap 0)=0:=by decide
 cbv
 exact ⟨⟨e1⟩,⟨by exact bX⟩⟩
@[reducible] noncomputable def SnS:Vc.Spec where
 α:=Unit
 args _:=[.sl 1 bP (λ_=>[])]
 pre _:=True
 res _:=.cS []
noncomputable def cSn (n m:Nat):Ctx:=dH n m [(278,Tryz.f278),(277,Tryz.f277),(309,Tryz.f309)] [(319,LzS)] [] [277,309]
theorem TX (n m:Nat):CB PP (cSn n m):=dK n m ⟨fo Tryz.func278,fo Tryz.func277,fo Tryz.func309,trivial⟩ ⟨aqj,trivial⟩
theorem aqk:cR (PP ()) 265 SnS:=by
 refine et (TX 0 0) (fo Tryz.func265) (λa=>⟨λx=>(df x).1,trivial⟩) (λa=>trivial) ?_
 intro x hx
 have u0:IntKind.u64.wrap ((([]:List Int).length:Nat):Int)=0:=by decide
 have w0:IntKind.i64.wrap (((([]:List Int).length:Nat):Int) - 0)=0:=by decide
 have f0:¬(12:Int) < IntKind.i64.wrap (((([]:List Int).length:Nat):Int) - 0):=by rw [w0];decide
 have f1:¬IntKind.i64.wrap (0+1) < ((([]:List Int).length:Nat):Int):=by decide
 refine ⟨?_⟩
 cbv
 refine ⟨0,⟨by have bH:=u0;exact bX,rfl⟩,?_⟩
 cbv
 refine Sat.dq (TX 0 0) 0 10 [] (λ_:Unit=>[]) (λ_=>[]) (λ_=>True) (λ_=>0) () (by exact aM) (by exact aM) trivial ?_
 intro _ _
 cbv
 refine ⟨λ_=>?_,λh=>?_⟩
 rotate_left
 ·have h':(12:Int) < IntKind.i64.wrap (((([]:List Int).length:Nat):Int) - 0):=aH
  cases f0 h'
 cbv
 refine Sat.dq (TX 0 0) 0 8 [] (λ_:Unit=>[]) (λ_=>[]) (λ_=>True) (λ_=>0) () (by exact aM) (by exact aM) trivial ?_
 intro _ _
 cbv
 refine ⟨λh=>?_,λ_=>?_⟩
 ·have h':IntKind.i64.wrap (0+1) < ((([]:List Int).length:Nat):Int):=aH
  cases f1 h'
 cbv
 exact ⟨by exact bp⟩
theorem Q6 {H:bB}:∀{l:List Int} {vs:List Value},dJ H (l.flatMap bP) vs↔vs=l.map (Value.int .i64)
 | [],vs=>by simp [aQ]
 | x :: r,vs=>by
  have ih:=@Q6 H r
  rw [qN,show bP x++r.flatMap bP=SV.i .i64 (λ_=>x) :: r.flatMap bP from rfl]
  simp only [aQ,rel,ih]
  constructor
  ·rintro ⟨v,nW,rfl,rfl,rfl⟩;rfl
  ·rintro rfl;exact ⟨_,_,rfl,rfl,rfl⟩
@[reducible] noncomputable def aeV (e:TypeId) (F:List Int->List Int):pC where
 α:=List Int
 args _:=[.own 0]
 io l:=[.dyn e 1 bP (λ_=>l)]
 pre l:=l.length < 4611686018427387904
 β:=Unit
 post _ _:=True
 mv:=[]
 res _ _:=.cS []
 mM l _:=[.dyn e 1 bP (λ_=>F l)]
theorem amV {w:World} {e:TypeId} {sz:Nat} {v:Value} {vals:List Value} (h:rM w e sz v 0 vals):∃ad cap,v=.slice ad 0 cap:=by
 rcases h with ⟨h,-⟩|⟨⟨ad,h⟩,-⟩
 ·rcases h.2 with ⟨h,-⟩|⟨g,cap,cur,h,-⟩
  ·exact ⟨_,_,h⟩
  ·exact ⟨_,_,h⟩
 ·exact ⟨_,_,h⟩
theorem alA {w w':World} (hF:∀(b:Nat) (o:Obj),w.heap[b]?=some o->w'.heap[b]?=some o) (ho:w'.os=w.os) (ht:w'.tape=w.tape) (hu:w'.output=w.output):w.grownBy w' none:=by
 refine ⟨ho,ht,hu,?_,λb hb _=>?_⟩
 ·rcases AP w.heap.size with e|e
  ·omega
  ·have:=(fW.1 (hF (w.heap.size - 1) _ (wh (show w.heap.size - 1 < w.heap.size by omega)))).1;omega
 ·rw [wh hb];exact hF b _ (wh hb)
theorem an9 {P:Unit->Program} {fid:FuncId} (e:TypeId) (F:List Int->List Int) (hF:∀l,(F l).length=l.length) (hN:cR (P ()) fid SnS)
  (hC:∀(blk cap:Nat) (zs:List Int) (w:World),Sort.Holds (Value.int .i64) w blk 0 zs.toArray->blk < w.heap.size->zs.length < 4611686018427387904 ->
   Calls (P ()) fid #[.slice (some ⟨blk,0,none⟩) zs.length cap] w λen w'=>en=.returned (.tuple #[])/\∃n os,w'=Sort.grow (Sort.putRow (Value.int .i64) (Sort.ahead w n) blk 0 (F zs).toArray) os) :
  nT P fid (aeV e F) where
 len _ _:=rfl
 old l j z h _:=by
  cases j with
  | zero=>cases h;rfl
  | succ j=>simp at h
 nu l y j h:=by
  cases j with
  | zero=>simp at h
  | succ j=>simp at h
 mv:=⟨Az,λ_ _ h=>by cases h⟩
 run l hl:=⟨λf η H a w hS hd D=>by
  obtain ⟨v,nW,hv,jI,rZ⟩:=D.t
  obtain rfl:nW=[]:=rZ
  have ib:v=η 0:=by simp only [rel,aW,IH,Slot.live] at jI;exact jI.1
  obtain ⟨vals,lx,pF,-,-⟩:=D.sl 0 _ rfl
  rcases AP l.length with hz|su
  ·obtain rfl:l=[]:=iF hz
   have zO:F []=[]:=iF (hF [])
   obtain ⟨ad,cap,gR⟩:=amV lx
   have ha:a.tmps=[v].toArray:=by apply Rz.1;rw [hv]
   rw [ha]
   refine (hN.run () trivial H (λb=>w.heap[b]?) w [v] D.hw (λ_ _ h=>h) ⟨v,[],rfl,⟨⟨ad,cap,ib.trans gR,cg _,.inl rfl⟩,λx=>(df x).1⟩,rfl⟩).mono ?_
   rintro en w' ⟨u,H',rfl,-,-,hFw,-,hu,ho,ht,cb⟩
   obtain ⟨us,rfl,BO⟩:=hu
   obtain rfl:us=[]:=BO
   have D':=D.grown (alA hFw ho ht cb)
   refine ⟨.tuple #[],_,η,H,.cS [],rfl,?_,⟨rfl,D'.sv,by rw [hd];rfl,D'.h0,D'.hw,D'.fw,D'.hf,D'.sl,D'.dj,D'.dh,D'.os,D'.tape,D'.out⟩,?_⟩
   ·refine ⟨(),[],[],?_,?_,⟨trivial⟩⟩
    ·exact aM
    ·have fc:=zO.symm;exact bh
   ·simp [rel,aQ]
  have hl:0 < l.length/\l.length < 4611686018427387904:=⟨su,hl⟩
  obtain ⟨h1,h2⟩:=lx.pos hl.1
  rw [Q6] at pF
  subst pF
  rcases h2 with ⟨-,h2⟩|⟨g,cap,cur,hg,-,hb,wJ,lO,fv,EK⟩
  ·have:=hl.1;change l.length=0 at h2;omega
  change η 0=.slice (some ⟨g,0,none⟩) l.length cap at hg
  change l.length<=cap at wJ
  change cur.toList.take (l.length*1)=_ at EK
  rw [pz] at EK
  have fv:cur.size=cap:=by omega
  have aP:g < w.heap.size:=(fW.1 hb).1
  have qt:∀j,j < l.length->cur[j]?=some (Value.int .i64 l[j]!):=λj hj=>by
   have h:=congrArg (λz=>z[j]?) EK
   simp only [ml,hj,if_true,mq,IJ] at h
   rw [h,eI hj,getElem!_pos l j hj];rfl
  have ha:a.tmps=#[.slice (some ⟨g,0,none⟩) l.length cap]:=by
   apply Rz.1
   rw [hv,ib,hg]
  rw [ha]
  refine (hC g cap l w (λj hj=>?_) aP hl.2).mono ?_
  ·have hj:j < l.length:=by simpa using hj
   refine ⟨?_,?_⟩
   ·simp only [World.cell?,hb,py,Option.isSome_none,pv,if_false]
    rw [qt j hj];simp
   ·simp [World.frozen?,hb]
  rintro en w' ⟨rfl,n,os,rfl⟩
  have hlen:=hF l
  have ia:w.grownBy (Sort.grow (Sort.putRow (Value.int .i64) (Sort.ahead w n) g 0 (F l).toArray) os) (some g):=⟨rfl,rfl,rfl,by simp [Sort.grow,Sort.putRow,Sort.mapBlock,Sort.ahead],λk hk bW=>by
   simp only [Sort.grow,Sort.putRow,Sort.mapBlock,Sort.ahead]
   rw [FZ (by simpa using hk),IK]
   rw [if_neg (λe=>bW (by rw [e]))]⟩
  have bS:(Sort.grow (Sort.putRow (Value.int .i64) (Sort.ahead w n) g 0 (F l).toArray) os).heap[g]?=some (.cells (Sort.putCells (Value.int .i64) 0 (F l).toArray cur) e (0,0)):=by
   simp only [Sort.grow,Sort.putRow,Sort.mapBlock,Sort.ahead]
   rw [FZ (by simpa using aP),IK,if_pos rfl,hb];rfl
  have D':=D.change (w':=Sort.grow (Sort.putRow (Value.int .i64) (Sort.ahead w n) g 0 (F l).toArray) os) (η':=η) (l:=0) (x:=.dyn e 1 bP (λ_=>F l)) none rfl (λ_ _=>rfl) (.inr ⟨rfl,rfl,rfl⟩) rfl
   (λo h=>by cases h) (some g) ia (λk hk=>.inr ⟨rfl,by
    cases hk;rw [hg]
    have:cap≠0:=by have:=hl.1;omega
    simp [cy,this]⟩) (λb hb=>.inr (.inr ⟨rfl,hb⟩)) (λ_=>by
    refine ⟨(F l).map (Value.int .i64),.inl ⟨⟨by simp,.inr ⟨g,cap,_,by rw [hg];exact congrArg (λk=>Value.slice _ k cap) hlen.symm,cg _,bS,by show (F l).length<=cap;omega,lO,by simp [Sort.putCells];omega,?_⟩⟩,λad m h=>by rw [hg] at h;cases h;have:=hl.1;omega⟩,Q6.2 rfl,λx hx=>rfl,λx=>df x⟩
    apply qO
    intro j
    rw [ml]
    by_cases hj:j < (F l).length
    ·rw [if_pos (by simpa using hj),mq,eI hj,IJ]
     simp only [Sort.putCells,Array.getElem?_mapIdx]
     rw [wh (show j < cur.size by omega)]
     simp [hj]
    ·rw [if_neg (by simpa using hj),nF (by simp;omega)])
  refine ⟨.tuple #[],_,η,H,.cS [],rfl,?_,⟨rfl,D'.sv,by rw [hd];rfl,D'.h0,D'.hw,D'.fw,D'.hf,D'.sl,D'.dj,D'.dh,D'.os,D'.tape,D'.out⟩,?_⟩
  ·refine ⟨(),[],[],?_,?_,⟨trivial⟩⟩
   ·exact aM
   ·exact aM
  ·simp [rel,aQ]⟩
def s5 (l:List Int):List Int:=l.mergeSort λx y=>decide (x<=y)
theorem Tm:nT PP 265 (aeV 3 s5) :=
 an9 3 s5 (λl=>List.length_mergeSort l) aqk λblk cap zs w h1 h2 h3=>Any.slices_Sort_int Tryz.amU blk 0 cap zs w h1 h2 h3
theorem R5 (x y:Int):∀l:List Int,eR (l++[x,y])=if x=y then eR (l++[x]) else eR (l++[x])++[y]
 | []=>by
  show (if x=y then eR [y] else x :: eR [y])=_
  split
  ·rename_i e;rw [e];rfl
  ·rfl
 | [z]=>by
  show (if z=x then eR ([]++[x,y]) else z :: eR ([]++[x,y]))=if x=y then (if z=x then eR [x] else z :: eR [x]) else (if z=x then eR [x] else z :: eR [x])++[y]
  rw [R5 x y []]
  by_cases h:x=y<;>by_cases h2:z=x<;>simp [h,h2]
 | z :: w :: r=>by
  have ih:=R5 x y (w :: r)
  show (if z=w then eR (w :: r++[x,y]) else z :: eR (w :: r++[x,y]))=if x=y then (if z=w then eR (w :: r++[x]) else z :: eR (w :: r++[x])) else (if z=w then eR (w :: r++[x]) else z :: eR (w :: r++[x]))++[y]
  rw [ih]
  by_cases h:x=y<;>by_cases h2:z=w<;>simp [h,h2]
theorem MB {l:List Int} {k:Nat} {x y:Int} (hx:l[k]?=some x) (hy:l[k+1]?=some y):eR (l.take (k+2))=if x=y then eR (l.take (k+1)) else eR (l.take (k+1))++[y]:=by
 rw [jR (i:=k+1),hy,jR (i:=k),hx]
 simp only [oQ,List.append_assoc,List.singleton_append]
 exact R5 x y _
structure sw (l:List Int) (k w j:Nat) (R:List Int):Prop where
 j1:1<=j
 w1:1<=w
 wk:w+1<=k+j
 kj:k+j<=l.length
 len:R.length=l.length
 at_:∀i,k+j<=i+1->R[i]?=l[i]?
 pre:R.take w=eR (l.take (k+j))
theorem sw.start {l:List Int} {k:Nat} {x:Int} (h:l.take k=eR (l.take k)) (hk:1<=k) (hy:l[k]?=some x) (hx:l[k - 1]?=some x):sw l k k 1 l:=by
 have aP:=(bt.1 hy).1
 refine ⟨fq _,hk,fq _,aP,rfl,λi _=>rfl,?_⟩
 have:=MB (l:=l) (k:=k - 1) hx (by rw [show k - 1+1=k by omega];exact hy)
 rw [show k - 1+2=k+1 by omega,if_pos rfl,show k - 1+1=k by omega,<-h] at this
 exact this.symm
theorem sw.skip {l R:List Int} {k w j:Nat} {x:Int} (h:sw l k w j R) (hy:R[k+j]?=some x) (hx:R[k+j - 1]?=some x):sw l k w (j+1) R:=by
 have:=h.j1;have:=h.w1;have:=h.wk
 rw [h.at_ _ (by omega)] at hx hy
 have aP:=(bt.1 hy).1
 refine ⟨by omega,h.w1,by omega,by omega,h.len,λi hi=>h.at_ i (by omega),?_⟩
 have:=MB (l:=l) (k:=k+j - 1) hx (by rw [show k+j - 1+1=k+j by omega];exact hy)
 rw [show k+j - 1+2=k+(j+1) by omega,if_pos rfl,show k+j - 1+1=k+j by omega] at this
 rw [h.pre,this]
theorem sw.add {l R:List Int} {k w j:Nat} {x y:Int} (h:sw l k w j R) (hy:R[k+j]?=some y) (hx:R[k+j - 1]?=some x) (bW:x≠y):sw l k (w+1) (j+1) (R.set w y):=by
 have:=h.j1;have:=h.w1;have:=h.wk
 rw [h.at_ _ (by omega)] at hx hy
 have aP:=(bt.1 hy).1
 have hl:=h.len
 refine ⟨by omega,by omega,by omega,by omega,by rw [ou];exact h.len,λi hi=>?_,?_⟩
 ·rw [ig (by omega)];exact h.at_ i (by omega)
 have:=MB (l:=l) (k:=k+j - 1) hx (by rw [show k+j - 1+1=k+j by omega];exact hy)
 rw [show k+j - 1+2=k+(j+1) by omega,if_neg bW,show k+j - 1+1=k+j by omega] at this
 rw [this,<-h.pre,jR,qc (by omega),oQ,List.take_set_of_le (fq _)]
def JM (l:List Int):Option (List Int)->List Int
 | none=>l
 | some r=>eR l++r
@[reducible] noncomputable def aoa:pC where
 α:=List Int
 args _:=[.own 0]
 io l:=[.dyn 3 1 bP (λ_=>l)]
 pre l:=l.length<=1000000
 β:=Option (List Int)
 post l y:=y=none->eR l=l
 mv:=[]
 res l y:=match y with
  | none=>.own 0
  | some _=>.fa 0 1 (λ_=>0) (λ_=>(eR l).length)
 mM l y:=[.dyn 3 1 bP (λ_=>JM l y)]
noncomputable def ar8 (n m:Nat):Ctx:=dH n m [] []
theorem Tn (n m:Nat):CB PP (ar8 n m):=dK n m trivial trivial
theorem aav:nT PP 302 aoa:=by
 refine tl (Tn 0 0) (fo Tryz.func302) (λa y=>rfl) (λa=>⟨rfl,rfl⟩) Az ?_
 intro l hx
 have hl:l.length<=1000000:=hx
 have lU:l.length < 2->eR l=l:=λh=>by
  match l,h with
  | [],_=>rfl
  | [x],_=>rfl
 have tk:eR (l.take 1)=l.take 1:=by
  match l with
  | []=>rfl
  | x :: r=>rfl
 refine ⟨?_⟩
 cbv
 refine ⟨λh=>?_,λh=>?_⟩
 ·have h':l.length < 2:=aH
  have hp:(none:Option (List Int))=none->eR l=l:=λ_=>lU h'
  cbv
  exact ⟨none,[],[],by exact aM,by exact aM,⟨hp⟩⟩
 have h2:2<=l.length:=aH
 cbv
 refine Sat.dq (Tn 0 0) 1 3 [] (λi:Nat=>[(3,.i .i64 (λ_=>(i:Int)))]) (λ_=>[]) (λi=>1<=i/\i<=l.length/\eR (l.take i)=l.take i) (λi=>l.length - i) 1 (by exact bh) (by exact aM) ⟨fq _,by omega,tk⟩ ?_
 intro i hi
 obtain ⟨e7,bM,vM⟩:1<=i/\i<=l.length/\eR (l.take i)=l.take i:=hi
 have h0:=n0 i
 have h1:=dC (i:=i) (by omega)
 have BS:IntKind.i64.wrap ((i:Int) - 1)=((i - 1:Nat):Int):=by rw [dt (by omega) (by omega)];omega
 cbv
 refine ⟨λh=>?_,λh=>?_⟩
 ·have tu:i < l.length:=aH
  refine (bO tu).elim λy hy=>?_
  refine (bO (l:=l) (i:=i - 1) (by omega)).elim λx hx=>?_
  have rY:0<=IntKind.i64.wrap ((i:Int) - 1)/\(IntKind.i64.wrap ((i:Int) - 1)).toNat < l.length:=by rw [BS];exact ⟨n0 _,by rw [jQ];omega⟩
  have iK:l[(IntKind.i64.wrap ((i:Int) - 1)).toNat]?=some x:=by rw [BS];exact hx
  have jB:0<=(i:Int)/\(i:Int).toNat < l.length:=⟨h0,tu⟩
  have PR:x=y->sw l i i 1 l:=λe=>.start vM.symm e7 hy (e ▸ hx)
  have B8:x≠y->eR (l.take (i+1))=l.take (i+1):=λe=>by
   have:=MB (l:=l) (k:=i - 1) hx (by rw [show i - 1+1=i by omega];exact hy)
   rw [show i - 1+2=i+1 by omega,if_neg e,show i - 1+1=i by omega,vM] at this
   rw [this,jR,hy];rfl
  have bZ:l.length - (i+1) < l.length - i:=by omega
  have gR:(0:Int)<=(i:Int)/\(i:Int)<=(l.length:Int)/\(l.length:Int)<=(l.length:Int):=⟨h0,by omega,mr _⟩
  cbv
  refine ⟨⟨jB⟩,y,⟨hy,rfl⟩,?_⟩
  cbv
  refine ⟨⟨rY⟩,x,⟨iK,rfl⟩,?_⟩
  cbv
  refine ⟨λh=>?_,λh=>?_⟩
  ·have si:y=x:=aH
   have hJ:=PR si.symm
   cbv
   refine ⟨⟨gR⟩,?_⟩
   cbv
   refine Sat.dq (Tn 0 0) 1 3 [] (λg:Nat × Nat × List Int=>[(3,.i .i64 (λ_=>(g.1:Int))),(4,.fa 0 1 (λ_=>i) (λ_=>l.length)),(5,.i .i64 (λ_=>(g.2.1:Int)))]) (λg=>[(0,.dyn 3 1 bP (λ_=>g.2.2))]) (λg=>sw l i g.1 g.2.1 g.2.2) (λg=>l.length - g.2.1) (i,1,l) (by ((try cbv)<;>(repeat' (first|with_reducible exact trivial|with_reducible refine And.intro ?_ ?_))<;>(try first|exact db.refl _|exact db.dyn rfl|exact db.map rfl|exact db.iter rfl rfl (.inl rfl)|exact db.iter rfl rfl (.inr rfl)|refine db.fix ?_|refine db.dyn ?_)<;>((repeat' first|exact dF.nil|exact Le.refl _|refine dF.cons ?_ ?_|exact Le.ic rfl|exact Le.bc rfl|exact Le.i rfl|exact Le.b rfl|exact Le.sl rfl|exact Le.mp rfl|exact Le.gH rfl|exact Le.qu rfl|refine Le.cW rfl (λ_=>?_)|refine Le.eF rfl (λ_ _=>rfl) (λ_=>?_) ?_|refine Le.agg ?_|refine Le.cS ?_|refine Le.fn ?_ ?_|refine Le.dU ?_|exact trivial|refine And.intro ?_ ?_|refine λ_=>?_|exact Le.any _)))<;>first|exact .fa (jQ _) (jQ _)|exact .ic rfl) (by exact aM) hJ ?_
   rintro ⟨w,j,R⟩ hJ
   have hJ:sw l i w j R:=hJ
   have B9:=n0 w
   have iM:=n0 j
   obtain ⟨j3,hwp,hwk,hkj,hlen,-,eD⟩:=id hJ
   have Wb:=dC (i:=w) (by omega)
   have aeW:=dC (i:=j) (by omega)
   have ED:IntKind.i64.wrap ((j:Int) - 1)=((j - 1:Nat):Int):=by rw [dt (by omega) (by omega)];omega
   cbv
   refine ⟨λh=>?_,λh=>?_⟩
   ·have eo:j < l.length - i:=aH
    have pP:i+j < R.length:=by have:=hlen;omega
    refine (bO pP).elim λy' oC=>?_
    refine (bO (l:=R) (i:=i+j - 1) (by omega)).elim λx' jK=>?_
    have nq:0<=(j:Int)/\(j:Int).toNat < l.length - i:=⟨iM,by rw [jQ];exact eo⟩
    have iW:R[i+(j:Int).toNat]?=some y':=by rw [jQ];exact oC
    have Ex:0<=IntKind.i64.wrap ((j:Int) - 1)/\(IntKind.i64.wrap ((j:Int) - 1)).toNat < l.length - i:=by rw [ED];exact ⟨n0 _,by rw [jQ];omega⟩
    have nk:R[i+(IntKind.i64.wrap ((j:Int) - 1)).toNat]?=some x':=by rw [ED,jQ,show i+(j - 1)=i+j - 1 by omega];exact jK
    have zH:0<=(w:Int)/\(w:Int).toNat < R.length:=⟨B9,by rw [jQ];omega⟩
    refine (bO (l:=R) (i:=(w:Int).toNat) zH.2).elim λu hu=>?_
    have bZ:l.length - (j+1) < l.length - j:=by omega
    have HG:x'=y'->sw l i w (j+1) R:=λe=>hJ.skip oC (e ▸ jK)
    have K2:x'≠y'->sw l i (w+1) (j+1) (R.set (w:Int).toNat y'):=λe=>by rw [jQ];exact hJ.add oC jK e
    obtain ⟨R',rj⟩:∃R',R.set (w:Int).toNat y'=R':=⟨_,rfl⟩
    rw [rj] at K2
    cbv
    refine ⟨⟨nq⟩,y',⟨iW,rfl⟩,?_⟩
    cbv
    refine ⟨⟨Ex⟩,x',⟨nk,rfl⟩,?_⟩
    cbv
    refine ⟨λh=>?_,λh=>?_⟩
    ·have bW:¬y'=x':=aH
     have gy:sw l i (w+1) (j+1) R'/\l.length - (j+1) < l.length - j:=⟨K2 λe=>bW e.symm,bZ⟩
     cbv
     refine ⟨⟨nq⟩,y',⟨iW,rfl⟩,?_⟩
     cbv
     refine ⟨⟨zH⟩,(u,y'),⟨hu,rfl,by exact cj⟩,?_⟩
     cbv
     exact ⟨(w+1,j+1,R'),by have bH:=Wb;have jv:=aeW;exact bh,by have fc:=rj;exact bh,⟨gy⟩⟩
    ·have he:y'=x':=aH
     have gy:sw l i w (j+1) R/\l.length - (j+1) < l.length - j:=⟨HG he.symm,bZ⟩
     cbv
     exact ⟨(w,j+1,R),by have bH:=aeW;exact bh,by exact aM,⟨gy⟩⟩
   ·have eo:l.length - i<=j:=aH
    have pP:i+j=l.length:=by omega
    have hp:R.take w=eR l:=by rw [eD,pP,iQ (fq _)]
    have nq:0<=(w:Int)/\(w:Int)<=(R.length:Int)/\(R.length:Int)<=(R.length:Int):=⟨B9,by omega,mr _⟩
    have jC:(eR l).length=w:=by rw [<-hp,iw];omega
    have hq:(w:Int).toNat=(eR l).length:=by rw [jC];rfl
    obtain ⟨r,BN⟩:∃r,List.replicate ((R.length:Int).toNat - (w:Int).toNat) (0:Int)++R.drop ((w:Int).toNat+((R.length:Int).toNat - (w:Int).toNat))=r:=⟨_,rfl⟩
    have hr:R.take (w:Int).toNat++List.replicate ((R.length:Int).toNat - (w:Int).toNat) (0:Int)++R.drop ((w:Int).toNat+((R.length:Int).toNat - (w:Int).toNat))=eR l++r:=by rw [List.append_assoc,BN,jQ,hp]
    have hN:(0:Int)<=0/\(0:Int)<=(w:Int)/\(w:Int)<=((R.take (w:Int).toNat++List.replicate ((R.length:Int).toNat - (w:Int).toNat) (0:Int)++R.drop ((w:Int).toNat+((R.length:Int).toNat - (w:Int).toNat))).length:Int):=⟨mr _,B9,by rw [hr,List.length_append,jC];omega⟩
    cbv
    refine ⟨⟨nq⟩,?_⟩
    cbv
    refine ⟨0,⟨by exact cj⟩,?_⟩
    cbv
    refine ⟨⟨hN⟩,?_⟩
    cbv
    exact ⟨some r,[],[],by ((try cbv)<;>(repeat' (first|with_reducible exact trivial|with_reducible refine And.intro ?_ ?_))<;>(try first|exact db.refl _|exact db.dyn rfl|exact db.map rfl|exact db.iter rfl rfl (.inl rfl)|exact db.iter rfl rfl (.inr rfl)|refine db.fix ?_|refine db.dyn ?_)<;>((repeat' first|exact dF.nil|exact Le.refl _|refine dF.cons ?_ ?_|exact Le.ic rfl|exact Le.bc rfl|exact Le.i rfl|exact Le.b rfl|exact Le.sl rfl|exact Le.mp rfl|exact Le.gH rfl|exact Le.qu rfl|refine Le.cW rfl (λ_=>?_)|refine Le.eF rfl (λ_ _=>rfl) (λ_=>?_) ?_|refine Le.agg ?_|refine Le.cS ?_|refine Le.fn ?_ ?_|refine Le.dU ?_|exact trivial|refine And.intro ?_ ?_|refine λ_=>?_|exact Le.any _)))<;>exact .fa rfl hq,by have fc:=hr;exact bh,⟨λe=>by cases e⟩⟩
  ·have si:¬y=x:=aH
   have hn:=B8 λe=>si e.symm
   have gy:(1<=i+1/\i+1<=l.length/\eR (l.take (i+1))=l.take (i+1))/\l.length - (i+1) < l.length - i:=⟨⟨RC _ _,tu,hn⟩,bZ⟩
   cbv
   exact ⟨i+1,by have bH:=h1;exact bh,by exact aM,⟨gy⟩⟩
 ·have cG:l.length<=i:=aH
  have hp:(none:Option (List Int))=none->eR l=l:=λ_=>by rw [iQ cG] at vM;exact vM
  cbv
  exact ⟨none,[],[],by exact aM,by exact aM,⟨hp⟩⟩
structure ar9 where
 a:List Int
 b:List Int
@[reducible] noncomputable def UN:Vc.Spec where
 α:=ar9
 args x:=[.sl 1 bP (λ_=>x.a),.sl 1 bP (λ_=>x.b)]
 pre x:=x.a.length<=100000/\x.b.length<=100000
 res x:=.sl 1 bP (λ_=>iS x.a x.b)
 fr:=true
noncomputable def asa (n m:Nat):Ctx:=dH n m [(211,Tryz.f211),(250,Tryz.f250),(265,Tryz.f265),(302,Tryz.f302)] [] [265,302]
theorem aob (n m:Nat):CB PP (asa n m):=dK n m ⟨fo Tryz.func211,fo Tryz.func250,fo Tryz.func265,fo Tryz.func302,trivial⟩ trivial
theorem aco:cR (PP ()) 270 UN:=by
 refine acd (aob 0 0) (fo Tryz.func270) (λa=>⟨λx=>(df x).1,λx=>(df x).1,trivial⟩) (λa=>λx=>(df x).1) ?_
 rintro ⟨a,b⟩ hx
 obtain ⟨ha,hb⟩:a.length<=100000/\b.length<=100000:=hx
 rcases AP (a.length+b.length) with hz|Hn
 ·obtain rfl:a=[]:=iF (by omega)
  obtain rfl:b=[]:=iF (by omega)
  have w1:IntKind.i64.wrap (0+((([]:List Int).length:Nat):Int))=0:=by decide
  have f1:¬IntKind.i64.wrap (0+((([]:List Int).length:Nat):Int)) < 0:=by decide
  have f2:¬IntKind.i64.wrap (IntKind.i64.wrap (0+((([]:List Int).length:Nat):Int))+((([]:List Int).length:Nat):Int)) < 0:=by decide
  have f3:¬0 < IntKind.i64.wrap (IntKind.i64.wrap (IntKind.i64.wrap (0+((([]:List Int).length:Nat):Int))+((([]:List Int).length:Nat):Int)) - 0):=by decide
  have hu:([]:List Int)=iS [] []:=rfl
  have Wc:s5 []=[]:=by simp [s5]
  have KA:([]:List Int).length < 4611686018427387904:=by decide
  have hp9:([]:List Int).length<=1000000:=by decide
  have b1:(([]:List Int).length)*8<=140737488355328:=by decide
  have b2:([]:List Int).length<=9223372036854775807:=by decide
  have b3:(([]:List Int).length+([]:List Int).length)*8<=140737488355328:=by decide
  have b4:([]:List Int).length+([]:List Int).length<=9223372036854775807:=by decide
  refine ⟨?_⟩
  cbv
  refine ⟨λh=>?_,λ_=>?_⟩
  ·have h':IntKind.i64.wrap (0+((([]:List Int).length:Nat):Int)) < 0:=aH
   cases f1 h'
  cbv
  refine ⟨λh=>?_,λ_=>?_⟩
  ·have h':IntKind.i64.wrap (IntKind.i64.wrap (0+((([]:List Int).length:Nat):Int))+((([]:List Int).length:Nat):Int)) < 0:=aH
   cases f2 h'
  cbv
  refine ⟨λh=>?_,λ_=>?_⟩
  ·have h':IntKind.i64.wrap (IntKind.i64.wrap (0+((([]:List Int).length:Nat):Int))+((([]:List Int).length:Nat):Int)) < 0:=aH
   cases f2 h'
  cbv
  refine ⟨λh=>?_,λ_=>?_⟩
  ·have h':0 < IntKind.i64.wrap (IntKind.i64.wrap (IntKind.i64.wrap (0+((([]:List Int).length:Nat):Int))+((([]:List Int).length:Nat):Int)) - 0):=aH
   cases f3 h'
  cbv
  refine ⟨[],⟨by exact cj,b1,b2⟩,?_⟩
  cbv
  refine ⟨[],⟨by exact cj,b3,b4⟩,?_⟩
  cbv
  refine gw.vL Tm (λa y=>trivial) [] [2] rfl (by exact bp) (by exact aM) ⟨KA⟩ λy _=>?_
  cbv
  refine gw.io aav [] [2] rfl (by exact bp) (by have fc:=Wc;exact bh) ⟨hp9⟩ λy hy=>?_
  rcases y with _|r
  ·cbv
   refine ⟨?_⟩
   cbv
   exact ⟨by have gS:=hu;exact qF,λx=>rfl⟩
  ·have hle:(eR []).length<=(JM [] (some r)).length:=cg _
   have hr:((JM [] (some r)).take (eR []).length).drop 0=iS [] []:=rfl
   cbv
   refine ⟨?_⟩
   exact ⟨rfl,hle,.sl hr,λx=>rfl⟩
 have w1:IntKind.i64.wrap (0+(a.length:Int))=a.length:=by rw [dt (by omega) (by omega)];omega
 have w2:IntKind.i64.wrap (IntKind.i64.wrap (0+(a.length:Int))+(b.length:Int))=(a.length:Int)+b.length:=by rw [w1,dt (by omega) (by omega)]
 have w3:IntKind.i64.wrap (IntKind.i64.wrap (IntKind.i64.wrap (0+(a.length:Int))+(b.length:Int)) - 0)=(a.length:Int)+b.length:=by rw [w2,dt (by omega) (by omega)];omega
 have f1:¬IntKind.i64.wrap (0+(a.length:Int)) < 0:=by omega
 have f2:¬IntKind.i64.wrap (IntKind.i64.wrap (0+(a.length:Int))+(b.length:Int)) < 0:=by omega
 have f3:¬IntKind.i64.wrap (IntKind.i64.wrap (IntKind.i64.wrap (0+(a.length:Int))+(b.length:Int)) - 0)<=0:=by omega
 obtain ⟨zs,jV,KI⟩:∃zs:List Int,zs.length=a.length+b.length/\∀y∈zs,y=0:=⟨List.replicate (a.length+b.length) 0,tT ..,λy hy=>(FG.1 hy).2⟩
 have z1:(zs.length:Int)=IntKind.i64.wrap (IntKind.i64.wrap (IntKind.i64.wrap (0+(a.length:Int))+(b.length:Int)) - 0):=by rw [w3,jV];exact Int.natCast_add ..
 have z2:zs.length*8<=140737488355328:=by omega
 have z3:zs.length<=9223372036854775807:=by omega
 have b1:((0:Int).toNat+a.length)*8<=140737488355328:=by rw [show (0:Int).toNat=0 from rfl];omega
 have b2:(0:Int).toNat+a.length<=9223372036854775807:=by rw [show (0:Int).toNat=0 from rfl];omega
 have Wd:zs.take (0:Int).toNat++a=a:=by rw [show (0:Int).toNat=0 from rfl];rfl
 have b3:((zs.take (0:Int).toNat++a).length+b.length)*8<=140737488355328:=by rw [Wd];omega
 have b4:(zs.take (0:Int).toNat++a).length+b.length<=9223372036854775807:=by rw [Wd];omega
 obtain ⟨l,hl⟩:∃l,zs.take (0:Int).toNat++a++b=l:=⟨_,rfl⟩
 have nk:l=a++b:=by rw [<-hl,Wd]
 have kP:l.length=a.length+b.length:=by rw [nk,List.length_append]
 obtain ⟨m,hm⟩:∃m,s5 l=m:=⟨_,rfl⟩
 have Ev:l.length < 4611686018427387904:=by omega
 have Vz:m.length<=1000000:=by rw [<-hm,s5,List.length_mergeSort];omega
 have kZ:eR m=iS a b:=by
  refine akl ?_ (by rw [<-hm,<-nk];exact List.mergeSort_perm l _)
  rw [<-hm]
  have:=YU (le:=λx y:Int=>decide (x<=y)) (λa b c h1 h2=>by simp only [decide_eq_true_eq] at *;omega) (λa b=>by simp only [px,decide_eq_true_eq];omega) l
  unfold s5
  simpa using this
 refine ⟨?_⟩
 cbv
 refine ⟨λh=>?_,λ_=>?_⟩
 ·have h':IntKind.i64.wrap (0+(a.length:Int)) < 0:=aH
  cases f1 h'
 cbv
 refine ⟨λh=>?_,λ_=>?_⟩
 ·have h':IntKind.i64.wrap (IntKind.i64.wrap (0+(a.length:Int))+(b.length:Int)) < 0:=aH
  cases f2 h'
 cbv
 refine ⟨λh=>?_,λ_=>?_⟩
 ·have h':IntKind.i64.wrap (IntKind.i64.wrap (0+(a.length:Int))+(b.length:Int)) < 0:=aH
  cases f2 h'
 cbv
 refine ⟨λ_=>?_,λh=>?_⟩
 rotate_left
 ·have h':IntKind.i64.wrap (IntKind.i64.wrap (IntKind.i64.wrap (0+(a.length:Int))+(b.length:Int)) - 0)<=0:=aH
  cases f3 h'
 cbv
 refine ⟨zs,⟨z1,λy hy=>by rw [KI y hy];exact cj,z2,z3⟩,?_⟩
 cbv
 refine ⟨⟨mr 0,mr 0,n0 _⟩,a,⟨⟨rfl,cg _⟩,by exact cj,b1,b2⟩,?_⟩
 cbv
 refine ⟨b,⟨by exact cj,b3,b4⟩,?_⟩
 cbv
 refine gw.vL Tm (λa y=>trivial) l [3] rfl (by exact bp) (by have fc:=hl;exact bh) ⟨Ev⟩ λy _=>?_
 cbv
 refine gw.io aav m [3] rfl (by exact bp) (by have fc:=hm;exact bh) ⟨Vz⟩ λy hy=>?_
 rcases y with _|r
 ·have he:eR m=m:=hy.out rfl
  have hr:=he.symm.trans kZ
  cbv
  refine ⟨?_⟩
  cbv
  exact ⟨by have gS:=hr;exact qF,λx=>rfl⟩
 ·have hle:(eR m).length<=(JM m (some r)).length:=by show _<=(eR m++r).length;rw [List.length_append];omega
  have hr:((JM m (some r)).take (eR m).length).drop 0=iS a b:=by show ((eR m++r).take (eR m).length).drop 0=_;rw [FL,RI,kZ]
  cbv
  refine ⟨?_⟩
  exact ⟨rfl,hle,.sl hr,λx=>rfl⟩
theorem alB {A:Type} {f:A->Bool} {l:List A} {i:Nat} {x:A} (h:l[i]?=some x):(l.take (i+1)).any f=((l.take i).any f||f x):=by
 rw [jR,h];simp
theorem aaw {A:Type} {f:A->Bool} {l:List A} {i:Nat} {x:A} (h:l[i]?=some x):(l.take (i+1)).all f=((l.take i).all f&&f x):=by
 rw [jR,h];simp
theorem amW {a b:List Int} {i:Nat} {x:Int} (h:a[i]?=some x) (hf:b.contains x=false):dT a b=false :=
 Bool.eq_false_iff.2 λhs=>by
  have:=jo.1 (show a.all (λx=>b.contains x)=true from hs) x (cB h)
  rw [hf] at this;cases this
@[reducible] noncomputable def UO:Vc.Spec where
 α:=L2
 args x:=[.sl 1 bP (λ_=>x.a),.sl 1 bP (λ_=>x.b)]
 pre x:=x.a.length<=1000000/\x.b.length<=1000000
 res x:=.b (λ_=>dT x.a x.b)
noncomputable def asb (n m:Nat):Ctx:=dH n m [(82,Tryz.f82),(176,Tryz.f176),(321,Tryz.f321)] [(263,Oj)] [] [176]
theorem acp (n m:Nat):CB PP (asb n m):=dK n m ⟨fo Tryz.func82,fo Tryz.func176,fo Tryz.func321,trivial⟩ ⟨S2,trivial⟩
theorem acq:cR (PP ()) 305 UO:=by
 refine et (acp 0 0) (fo Tryz.func305) (λa=>⟨λx=>(df x).1,λx=>(df x).1,trivial⟩) (λa=>trivial) ?_
 rintro ⟨a,b⟩ hx
 obtain ⟨ha,hb⟩:a.length<=1000000/\b.length<=1000000:=hx
 have iV:b.length<=1000000000000:=by omega
 obtain ⟨f,hf⟩:∃f,f=λx=>b.contains x:=⟨_,rfl⟩
 have hu:dT a b=a.all f:=by rw [hf];rfl
 have hz:(a.take 0).all f=true:=rfl
 refine ⟨?_⟩
 cbv
 refine Sat.dq (acp 0 0) 1 8 [] (λi:Nat=>[(8,.i .i64 (λ_=>(i:Int)))]) (λi=>[])
  (λi=>i<=a.length/\(a.take i).all f=true) (λi=>a.length - i) 0 (by exact aM) (by exact aM) ⟨cg _,hz⟩ ?_
 rintro i ⟨hi,ht⟩
 have h0:=n0 i
 have h1:=dC (i:=i) (by omega)
 cbv
 refine ⟨λh=>?_,λh=>?_⟩
 ·have bM:i < a.length:=aH
  have bZ:a.length - (i+1) < a.length - i:=by omega
  refine (bO bM).elim λx hx=>?_
  cbv
  refine ⟨x,⟨h0,hx⟩,?_⟩
  cbv
  refine ⟨⟨b,x⟩,⟨by exact bp,iV⟩,?_⟩
  cbv
  refine ⟨λh=>?_,λh=>?_⟩
  ·have We:b.contains x=false:=by have h':(!b.contains x)=true:=h.out;simpa using h'
   have e:(!gI 0 (i:Int))=dT a b:=by rw [amW hx We];simp [gI]
   cbv
   exact ⟨by have kQ:=e;exact bX⟩
  ·have We:b.contains x=true:=by have h':(!b.contains x)=false:=h.out;simpa using h'
   have bS:i+1<=a.length/\(a.take (i+1)).all f=true:=⟨bM,by rw [aaw hx,ht,hf];exact We⟩
   cbv
   exact ⟨i+1,by have bH:=h1;exact bh,by exact aM,⟨⟨bS,bZ⟩⟩⟩
 ·have cG:a.length<=i:=aH
  have e:true=dT a b:=by rw [hu,<-ht,iQ cG]
  cbv
  exact ⟨by have eK:=e;exact bX⟩
structure sx (x:List Int) (L:List (List Int)) (i j:Nat) (R:List (List Int)):Prop where
 ij:i<=j
 jl:j<=L.length
 len:R.length=L.length
 at_:∀k,j<=k->R[k]?=L[k]?
 pre:R.take i=(L.take j).filter (λy=>!dT x y)
theorem QR {A:Type} {f:A->Bool} {l:List A} {j:Nat} {y:A} (h:l[j]?=some y):(l.take (j+1)).filter f=(l.take j).filter f++(if f y then [y] else []):=by
 rw [jR,h,yR,oQ]
 congr 1
 by_cases hf:f y=true
 ·simp [hf]
 ·simp [hf]
theorem sx.skip {x:List Int} {L R:List (List Int)} {i j:Nat} {y:List Int} (h:sx x L i j R) (hy:L[j]?=some y) (hs:dT x y=true):sx x L i (j+1) R:=by
 have aP:=(bt.1 hy).1
 refine ⟨by have:=h.ij;omega,aP,h.len,λk hk=>h.at_ k (by omega),?_⟩
 rw [QR hy,h.pre,hs];simp
theorem sx.GL {x:List Int} {L R:List (List Int)} {i j:Nat} {y:List Int} (h:sx x L i j R) (hy:L[j]?=some y) (hs:dT x y=false):sx x L (i+1) (j+1) (R.set i y):=by
 have aP:=(bt.1 hy).1
 have pP:=h.ij
 have hl:=h.len
 refine ⟨by omega,aP,by rw [ou];exact h.len,λk hk=>?_,?_⟩
 ·rw [ig (by omega)];exact h.at_ k (by omega)
 rw [QR hy,<-h.pre,hs,jR,qc (by omega),oQ,List.take_set_of_le (fq _)];simp
theorem sx.start {x:List Int} {L:List (List Int)} {i:Nat} {y:List Int} (h:∀j,j < i->∀y,L[j]?=some y->dT x y=false) (hy:L[i]?=some y) (hs:dT x y=true):sx x L i (i+1) L:=by
 have aP:=(bt.1 hy).1
 refine ⟨Nat.le_succ _,aP,rfl,λ_ _=>rfl,?_⟩
 rw [QR hy,hs]
 simp only [Bool.not_true,pv,if_false,Ax]
 rw [List.filter_eq_self.2]
 intro z hz
 obtain ⟨k,hk⟩:=nG hz
 rw [ml] at hk
 split at hk
 ·rw [h k (by assumption) z hk];rfl
 ·cases hk
theorem alC {L:List (List Int)} {x y:List Int} {i:Nat} (hy:L[i]?=some y) (hs:dT y x=true):me L x=L:=by
 unfold me
 rw [if_pos (IW.2 ⟨y,cB hy,hs⟩)]
theorem alD {L:List (List Int)} {x:List Int} (h:(L.take L.length).any (λy=>dT y x)=false):me L x=L.filter (λy=>!dT x y)++[x]:=by
 unfold me
 rw [AQ] at h
 rw [if_neg (by rw [h];simp)]
structure Kf where
 l:Option (List (List Int))
 x:List Int
def Kf.eF (a:Kf):List (List Int):=a.l.getD []
def Kg (a:Kf):Prop:=a.x.length<=1000000/\a.eF.length<=1000000000/\∀y∈a.eF,y.length<=1000000
def pH (L:List (List Int)) (x:List Int):List (List Int):=L.filter (λy=>!dT x y)
def Ol (L:List (List Int)) (x:List Int):Option (List (List Int))->List (List Int)
 | none=>L
 | some r=>pH L x++r
@[reducible] noncomputable def DlS:pC where
 α:=Kf
 args a:=match a.l with
  | none=>[.cW,.fn (.func 307) [] [.ptr 0 0]]
  | some _=>[.own 0,.fn (.func 307) [] [.ptr 1 0]]
 io a:=match a.l with
  | none=>[.fix 35 [.sl 1 bP (λ_=>a.x)]]
  | some L=>[.dyn 35 1 e8 (λ_=>L),.fix 35 [.sl 1 bP (λ_=>a.x)]]
 pre a:=Kg a
 β:=Option (List (List Int))
 post a y:=y=none->pH a.eF a.x=a.eF
 mv:=[]
 res a y:=match a.l with
  | none=>.cW
  | some L=>match y with
   | none=>.own 0
   | some _=>.fa 0 1 (λ_=>0) (λ_=>(pH L a.x).length)
 mM a y:=match a.l with
  | none=>[.fix 35 [.sl 1 bP (λ_=>a.x)]]
  | some L=>[.dyn 35 1 e8 (λ_=>Ol L a.x y),.fix 35 [.sl 1 bP (λ_=>a.x)]]
theorem alE {L:List (List Int)} {x:List Int} (k:∀j,j < L.length->∀y,L[j]?=some y->dT x y=false):pH L x=L:=by
 unfold pH
 rw [List.filter_eq_self]
 intro z hz
 obtain ⟨j,hj⟩:=nG hz
 rw [k j (bt.1 hj).1 z hj];rfl
noncomputable def cDl (n m:Nat):Ctx:=dH n m [(320,Tryz.f320),(307,Tryz.f307)] [(305,UO)] [] [320]
theorem Om (n m:Nat):CB PP (cDl n m):=dK n m ⟨fo Tryz.func320,fo Tryz.func307,trivial⟩ ⟨acq,trivial⟩
theorem adM:nT PP 306 DlS:=by
 refine tl (Om 1 0) (fo Tryz.func306) (λa y=>by rcases a with ⟨_|_,_⟩<;>rfl) (λa=>by rcases a with ⟨_|_,_⟩<;>exact ⟨rfl,rfl⟩) Az ?_
 rintro ⟨_|L,x⟩ hx
 ·have hm:(none:Option (List (List Int)))=none->pH [] x=[]:=λ_=>rfl
  refine ⟨?_⟩
  cbv
  refine Sat.dq (Om 1 0) 1 8 [] (λ_:Unit=>[(8,.ic .i64 0)]) (λ_=>[]) (λ_=>True) (λ_=>0) () (by exact aM) (by exact aM) trivial ?_
  intro _ _
  cbv
  exact ⟨none,[],[],by exact aM,by exact aM,⟨hm⟩⟩
 ·obtain ⟨rY,hL,PS⟩:x.length<=1000000/\L.length<=1000000000/\∀y∈L,y.length<=1000000:=hx
  refine ⟨?_⟩
  cbv
  refine Sat.dq (Om 1 0) 2 8 [] (λi:Nat=>[(8,.i .i64 (λ_=>(i:Int)))]) (λ_=>[]) (λi=>i<=L.length/\∀j,j < i->∀y,L[j]?=some y->dT x y=false) (λi=>L.length - i) 0 (by exact aM) (by exact aM) ⟨cg _,λj h=>absurd h (qf _)⟩ ?_
  intro i hi
  obtain ⟨hi,ha⟩:i<=L.length/\∀j,j < i->∀y,L[j]?=some y->dT x y=false:=hi
  have h0:=n0 i
  have h1:=dC (i:=i) (by omega)
  cbv
  refine ⟨λh=>?_,λh=>?_⟩
  rotate_left
  ·have cG:L.length<=i:=aH
   have hm:(none:Option (List (List Int)))=none->pH L x=L:=λ_=>alE λj hj=>ha j (by omega)
   cbv
   exact ⟨none,[],[],by exact aM,by exact aM,⟨hm⟩⟩
  have bM:i < L.length:=aH
  have bZ:L.length - (i+1) < L.length - i:=by omega
  refine (bO bM).elim λy hy=>?_
  have nq:0<=(i:Int)/\(i:Int).toNat < L.length:=⟨h0,bM⟩
  have eD:x.length<=1000000/\y.length<=1000000:=⟨rY,PS y (cB hy)⟩
  cbv
  refine ⟨⟨nq⟩,y,⟨hy,rfl⟩,?_⟩
  cbv
  refine ⟨⟨x,y⟩,⟨by exact bp,eD⟩,?_⟩
  cbv
  refine ⟨λh=>?_,λh=>?_⟩
  rotate_left
  ·have hs:dT x y=false:=h.out
   have gy:(i+1<=L.length/\∀j,j < i+1->∀y,L[j]?=some y->dT x y=false)/\L.length - (i+1) < L.length - i:=⟨⟨bM,λj hj z hz=>by
    by_cases oh:j=i
    ·subst oh;rw [hy] at hz;cases hz;exact hs
    ·exact ha j (by omega) z hz⟩,bZ⟩
   cbv
   exact ⟨i+1,by have bH:=h1;exact bh,by exact aM,⟨gy⟩⟩
  have hs:dT x y=true:=h.out
  have hJ:sx x L i (i+1) L:=.start ha hy hs
  have bW:¬(i:Int)=-1:=by omega
  clear h
  cbv
  refine ⟨λh=>?_,λ_=>?_⟩
  ·have h':(i:Int)=-1:=aH
   cases bW h'
  cbv
  refine Sat.dq (Om 1 0) 2 5 [] (λg:Nat × Nat × List (List Int)=>[(5,.i .i64 (λ_=>(g.1:Int))),(6,.i .i64 (λ_=>(g.2.1:Int)))]) (λg=>[(0,.dyn 35 1 e8 (λ_=>g.2.2))]) (λg=>sx x L g.1 g.2.1 g.2.2) (λg=>L.length - g.2.1) (i,i+1,L) (by have bH:=h1;exact bh) (by exact aM) hJ ?_
  rintro ⟨w,j,R⟩ hJ
  have hJ:sx x L w j R:=hJ
  have B9:=n0 w
  have iM:=n0 j
  obtain ⟨hwj,hjL,hlen,nm,eD⟩:=id hJ
  have Wb:=dC (i:=w) (by omega)
  have PR:=dC (i:=j) (by omega)
  cbv
  refine ⟨λh=>?_,λh=>?_⟩
  ·have eo:j < R.length:=aH
   refine (bO eo).elim λy' oC=>?_
   have HH:L[j]?=some y':=(nm j (fq _)).symm.trans oC
   have nq:0<=(j:Int)/\(j:Int).toNat < R.length:=⟨iM,by rw [jQ];exact eo⟩
   have zH:0<=(w:Int)/\(w:Int).toNat < R.length:=⟨B9,by rw [jQ];omega⟩
   refine (bO (l:=R) (i:=(w:Int).toNat) zH.2).elim λu hu=>?_
   have aql:x.length<=1000000/\y'.length<=1000000:=⟨rY,PS y' (cB HH)⟩
   have bZ:L.length - (j+1) < L.length - j:=by omega
   have HG:dT x y'=true->sx x L w (j+1) R:=λe=>hJ.skip HH e
   have K2:dT x y'=false->sx x L (w+1) (j+1) (R.set (w:Int).toNat y'):=λe=>by rw [jQ];exact hJ.GL HH e
   obtain ⟨R',rj⟩:∃R',R.set (w:Int).toNat y'=R':=⟨_,rfl⟩
   rw [rj] at K2
   cbv
   refine ⟨⟨nq⟩,y',⟨oC,rfl⟩,?_⟩
   cbv
   refine ⟨⟨x,y'⟩,⟨by exact bp,aql⟩,?_⟩
   cbv
   refine ⟨λh=>?_,λh=>?_⟩
   ·have hs:dT x y'=false:=by have h':(!dT x y')=true:=h.out;simpa using h'
    have gy:sx x L (w+1) (j+1) R'/\L.length - (j+1) < L.length - j:=⟨K2 hs,bZ⟩
    cbv
    refine ⟨⟨zH⟩,(u,y'),⟨hu,rfl,by exact cj⟩,?_⟩
    cbv
    exact ⟨(w+1,j+1,R'),by have bH:=Wb;have jv:=PR;exact bh,by have fc:=rj;exact bh,⟨gy⟩⟩
   ·have hs:dT x y'=true:=by have h':(!dT x y')=false:=h.out;simpa using h'
    have gy:sx x L w (j+1) R/\L.length - (j+1) < L.length - j:=⟨HG hs,bZ⟩
    cbv
    exact ⟨(w,j+1,R),by have bH:=PR;exact bh,by exact aM,⟨gy⟩⟩
  ·have eo:R.length<=j:=aH
   have hp:R.take w=pH L x:=by rw [eD,iQ (by omega)];rfl
   have nq:0<=(w:Int)/\(w:Int)<=(R.length:Int)/\(R.length:Int)<=(R.length:Int):=⟨B9,by omega,mr _⟩
   have jC:(pH L x).length=w:=by rw [<-hp,iw];omega
   have hq:(w:Int).toNat=(pH L x).length:=by rw [jC];rfl
   obtain ⟨r,BN⟩:∃r,List.replicate ((R.length:Int).toNat - (w:Int).toNat) ([]:List Int)++R.drop ((w:Int).toNat+((R.length:Int).toNat - (w:Int).toNat))=r:=⟨_,rfl⟩
   have hr:R.take (w:Int).toNat++List.replicate ((R.length:Int).toNat - (w:Int).toNat) ([]:List Int)++R.drop ((w:Int).toNat+((R.length:Int).toNat - (w:Int).toNat))=pH L x++r:=by rw [List.append_assoc,BN,jQ,hp]
   have hN:(0:Int)<=0/\(0:Int)<=(w:Int)/\(w:Int)<=((R.take (w:Int).toNat++List.replicate ((R.length:Int).toNat - (w:Int).toNat) ([]:List Int)++R.drop ((w:Int).toNat+((R.length:Int).toNat - (w:Int).toNat))).length:Int):=⟨mr _,B9,by rw [hr,List.length_append,jC];omega⟩
   cbv
   refine ⟨⟨nq⟩,?_⟩
   cbv
   refine ⟨[],⟨by exact cj⟩,?_⟩
   cbv
   refine ⟨⟨hN⟩,?_⟩
   cbv
   exact ⟨some r,[],[],by ((try cbv)<;>(repeat' (first|with_reducible exact trivial|with_reducible refine And.intro ?_ ?_))<;>(try first|exact db.refl _|exact db.dyn rfl|exact db.map rfl|exact db.iter rfl rfl (.inl rfl)|exact db.iter rfl rfl (.inr rfl)|refine db.fix ?_|refine db.dyn ?_)<;>((repeat' first|exact dF.nil|exact Le.refl _|refine dF.cons ?_ ?_|exact Le.ic rfl|exact Le.bc rfl|exact Le.i rfl|exact Le.b rfl|exact Le.sl rfl|exact Le.mp rfl|exact Le.gH rfl|exact Le.qu rfl|refine Le.cW rfl (λ_=>?_)|refine Le.eF rfl (λ_ _=>rfl) (λ_=>?_) ?_|refine Le.agg ?_|refine Le.cS ?_|refine Le.fn ?_ ?_|refine Le.dU ?_|exact trivial|refine And.intro ?_ ?_|refine λ_=>?_|exact Le.any _)))<;>exact .fa rfl hq,by have fc:=hr;exact bh,⟨λe=>by cases e⟩⟩
end Go.Proofs.Pk
