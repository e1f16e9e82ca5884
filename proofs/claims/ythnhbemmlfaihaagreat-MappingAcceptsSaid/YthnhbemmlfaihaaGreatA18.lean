import Derived.Test.YthnhbemmlfaihaaGreatA13
import Derived.Test.YthnhbemmlfaihaaGreatA14
import Derived.Test.YthnhbemmlfaihaaGreatA15
import Derived.Test.YthnhbemmlfaihaaGreatA17
set_option linter.unusedVariables false
set_option linter.unusedSimpArgs false
set_option maxRecDepth 10000
set_option maxHeartbeats 64000000
namespace Go.Proofs.Pk
open Go Go.Vc
@[reducible] noncomputable def ZD:Vc.Spec where
 α:=Int
 args x:=[.i .u64 (λ_=>x)]
 pre x:=x=0
 res _:=.i .i64 (λ_=>0)
noncomputable def cLz (n m:Nat):Ctx:=cW n m [] []
theorem ahp (n m:Nat):CB PP (cLz n m):=cZ n m trivial trivial
theorem ahq:cY (PP ()) 319 ZD:=by
 refine e6 (ahp 0 0) (fo Tryz.func319) (λa=>⟨trivial,trivial⟩) (λa=>trivial) ?_
 intro x hx
 obtain rfl:x=0:=hx
 refine ⟨?_⟩
 cbv
 refine ⟨λh=>?_,λ_=>?_⟩
 ·have h':(4294967296:Int)<=0:=aG
  cases (show False from absurd h' (by decide))
 cbv
 refine ⟨λh=>?_,λ_=>?_⟩
 ·have h':(65536:Int)<=0:=aG
  cases (show False from absurd h' (by decide))
 cbv
 refine ⟨λh=>?_,λ_=>?_⟩
 ·have h':(256:Int)<=0:=aG
  cases (show False from absurd h' (by decide))
 have e1:0<=IntKind.u8.wrap 0/\(IntKind.u8.wrap 0).toNat < 256:=by decide
 have e2:(IntKind.u8.wrap 0).toNat=0:=by decide
 have e3:IntKind.i64.wrap (0+IntKind.i64.wrap 0)=0:=by decide
 cbv
 exact ⟨⟨e1⟩,⟨by exact bM⟩⟩
@[reducible] noncomputable def ZE:Vc.Spec where
 α:=Unit
 args _:=[.sl 1 bJ (λ_=>[])]
 pre _:=True
 res _:=.cd []
noncomputable def cSn (n m:Nat):Ctx:=cW n m [(278,Tryz.f278),(277,Tryz.f277),(309,Tryz.f309)] [(319,ZD)] [] [277,309]
theorem Nw (n m:Nat):CB PP (cSn n m):=cZ n m ⟨fo Tryz.func278,fo Tryz.func277,fo Tryz.func309,trivial⟩ ⟨ahq,trivial⟩
theorem ahr:cY (PP ()) 265 ZE:=by
 refine e6 (Nw 0 0) (fo Tryz.func265) (λa=>⟨λx=>(dq x).1,trivial⟩) (λa=>trivial) ?_
 intro x hx
 have u0:IntKind.u64.wrap ((([]:List Int).length:Nat):Int)=0:=by decide
 have w0:IntKind.i64.wrap (((([]:List Int).length:Nat):Int) - 0)=0:=by decide
 have f0:¬(12:Int) < IntKind.i64.wrap (((([]:List Int).length:Nat):Int) - 0):=by rw [w0];decide
 have f1:¬IntKind.i64.wrap (0+1) < ((([]:List Int).length:Nat):Int):=by decide
 refine ⟨?_⟩
 cbv
 refine ⟨0,⟨by have bK:=u0;exact bM,rfl⟩,?_⟩
 cbv
 refine Sat.dP (Nw 0 0) 0 10 [] (λ_:Unit=>[]) (λ_=>[]) (λ_=>True) (λ_=>0) () (by exact aW) (by exact aW) trivial ?_
 intro _ _
 cbv
 refine ⟨λ_=>?_,λh=>?_⟩
 rotate_left
 ·have h':(12:Int) < IntKind.i64.wrap (((([]:List Int).length:Nat):Int) - 0):=aG
  cases f0 h'
 cbv
 refine Sat.dP (Nw 0 0) 0 8 [] (λ_:Unit=>[]) (λ_=>[]) (λ_=>True) (λ_=>0) () (by exact aW) (by exact aW) trivial ?_
 intro _ _
 cbv
 refine ⟨λh=>?_,λ_=>?_⟩
 ·have h':IntKind.i64.wrap (0+1) < ((([]:List Int).length:Nat):Int):=aG
  cases f1 h'
 cbv
 exact ⟨by exact a8⟩
theorem K9 {H:aZ}:∀{l:List Int} {vs:List Value},dg H (l.flatMap bJ) vs↔vs=l.map (Value.int .i64)
 | [],vs=>by simp [aL]
 | x :: r,vs=>by
  have ih:=@K9 H r
  rw [o6,show bJ x++r.flatMap bJ=SV.i .i64 (λ_=>x) :: r.flatMap bJ from rfl]
  simp only [aL,rel,ih]
  constructor
  ·rintro ⟨v,lI,rfl,rfl,rfl⟩;rfl
  ·rintro rfl;exact ⟨_,_,rfl,rfl,rfl⟩
@[reducible] noncomputable def XD (e:TypeId) (F:List Int->List Int):nU where
 α:=List Int
 args _:=[.own 0]
 io l:=[.dyn e 1 bJ (λ_=>l)]
 pre l:=l.length < 4611686018427387904
 β:=Unit
 post _ _:=True
 mv:=[]
 res _ _:=.cd []
 ld l _:=[.dyn e 1 bJ (λ_=>F l)]
theorem aeR {w:World} {e:TypeId} {sz:Nat} {v:Value} {vals:List Value} (h:rR w e sz v 0 vals):∃ad cap,v=.slice ad 0 cap:=by
 rcases h with ⟨h,-⟩|⟨⟨ad,h⟩,-⟩
 ·rcases h.2 with ⟨h,-⟩|⟨g,cap,cur,h,-⟩
  ·exact ⟨_,_,h⟩
  ·exact ⟨_,_,h⟩
 ·exact ⟨_,_,h⟩
theorem adF {w w':World} (hF:∀(b:Nat) (o:Obj),w.heap[b]?=some o->w'.heap[b]?=some o) (ho:w'.os=w.os) (ht:w'.tape=w.tape) (hu:w'.output=w.output):w.grownBy w' none:=by
 refine ⟨ho,ht,hu,?_,λb hb _=>?_⟩
 ·rcases y6 w.heap.size with e|e
  ·omega
  ·have:=(fi.1 (hF (w.heap.size - 1) _ (sY (show w.heap.size - 1 < w.heap.size by omega)))).1;omega
 ·rw [sY hb];exact hF b _ (sY hb)
theorem afT {P:Unit->Program} {fid:FuncId} (e:TypeId) (F:List Int->List Int) (hF:∀l,(F l).length=l.length) (hN:cY (P ()) fid ZE)
  (hC:∀(blk cap:Nat) (zs:List Int) (w:World),Sort.Holds (Value.int .i64) w blk 0 zs.toArray->blk < w.heap.size->zs.length < 4611686018427387904 ->
   Calls (P ()) fid #[.slice (some ⟨blk,0,none⟩) zs.length cap] w λen w'=>en=.returned (.tuple #[])/\∃n os,w'=Sort.grow (Sort.putRow (Value.int .i64) (Sort.ahead w n) blk 0 (F zs).toArray) os) :
  l5 P fid (XD e F) where
 len _ _:=rfl
 old l j z h _:=by
  cases j with
  | zero=>cases h;rfl
  | succ j=>simp at h
 nu l y j h:=by
  cases j with
  | zero=>simp at h
  | succ j=>simp at h
 mv:=⟨xe,λ_ _ h=>by cases h⟩
 run l hl:=⟨λf η H a w hS hd D=>by
  obtain ⟨v,lI,hv,iX,qc⟩:=D.t
  obtain rfl:lI=[]:=qc
  have jH:v=η 0:=by simp only [rel,aO,DX,Slot.live] at iX;exact iX.1
  obtain ⟨vals,jy,oH,-,-⟩:=D.sl 0 _ rfl
  rcases y6 l.length with hz|yj
  ·obtain rfl:l=[]:=gM hz
   have wC:F []=[]:=gM (hF [])
   obtain ⟨ad,cap,gz⟩:=aeR jy
   have ha:a.tmps=[v].toArray:=by apply LA.1;rw [hv]
   rw [ha]
   refine (hN.run () trivial H (λb=>w.heap[b]?) w [v] D.hw (λ_ _ h=>h) ⟨v,[],rfl,⟨⟨ad,cap,jH.trans gz,cI _,.inl rfl⟩,λx=>(dq x).1⟩,rfl⟩).mono ?_
   rintro en w' ⟨u,H',rfl,-,-,hFw,-,hu,ho,ht,di⟩
   obtain ⟨us,rfl,OQ⟩:=hu
   obtain rfl:us=[]:=OQ
   have D':=D.grown (adF hFw ho ht di)
   refine ⟨.tuple #[],_,η,H,.cd [],rfl,?_,⟨rfl,D'.sv,by rw [hd];rfl,D'.h0,D'.hw,D'.fw,D'.hf,D'.sl,D'.dj,D'.dh,D'.os,D'.tape,D'.out⟩,?_⟩
   ·refine ⟨(),[],[],?_,?_,⟨trivial⟩⟩
    ·exact aW
    ·have eH:=wC.symm;exact bq
   ·simp [rel,aL]
  have hl:0 < l.length/\l.length < 4611686018427387904:=⟨yj,hl⟩
  obtain ⟨h1,h2⟩:=jy.pos hl.1
  rw [K9] at oH
  subst oH
  rcases h2 with ⟨-,h2⟩|⟨g,cap,cur,hg,-,hb,tq,jV,eU,Ay⟩
  ·have:=hl.1;change l.length=0 at h2;omega
  change η 0=.slice (some ⟨g,0,none⟩) l.length cap at hg
  change l.length<=cap at tq
  change cur.toList.take (l.length*1)=_ at Ay
  rw [o9] at Ay
  have eU:cur.size=cap:=by omega
  have aP:g < w.heap.size:=(fi.1 hb).1
  have nW:∀j,j < l.length->cur[j]?=some (Value.int .i64 l[j]!):=λj hj=>by
   have h:=congrArg (λz=>z[j]?) Ay
   simp only [kR,hj,if_true,kB,Dz] at h
   rw [h,eG hj,getElem!_pos l j hj];rfl
  have ha:a.tmps=#[.slice (some ⟨g,0,none⟩) l.length cap]:=by
   apply LA.1
   rw [hv,jH,hg]
  rw [ha]
  refine (hC g cap l w (λj hj=>?_) aP hl.2).mono ?_
  ·have hj:j < l.length:=by simpa using hj
   refine ⟨?_,?_⟩
   ·simp only [World.cell?,hb,mZ,Option.isSome_none,mV,if_false]
    rw [nW j hj];simp
   ·simp [World.frozen?,hb]
  rintro en w' ⟨rfl,n,os,rfl⟩
  have hlen:=hF l
  have e8:w.grownBy (Sort.grow (Sort.putRow (Value.int .i64) (Sort.ahead w n) g 0 (F l).toArray) os) (some g):=⟨rfl,rfl,rfl,by simp [Sort.grow,Sort.putRow,Sort.mapBlock,Sort.ahead],λk hk bR=>by
   simp only [Sort.grow,Sort.putRow,Sort.mapBlock,Sort.ahead]
   rw [Bo (by simpa using hk),DA]
   rw [if_neg (λe=>bR (by rw [e]))]⟩
  have cb:(Sort.grow (Sort.putRow (Value.int .i64) (Sort.ahead w n) g 0 (F l).toArray) os).heap[g]?=some (.cells (Sort.putCells (Value.int .i64) 0 (F l).toArray cur) e (0,0)):=by
   simp only [Sort.grow,Sort.putRow,Sort.mapBlock,Sort.ahead]
   rw [Bo (by simpa using aP),DA,if_pos rfl,hb];rfl
  have D':=D.change (w':=Sort.grow (Sort.putRow (Value.int .i64) (Sort.ahead w n) g 0 (F l).toArray) os) (η':=η) (l:=0) (x:=.dyn e 1 bJ (λ_=>F l)) none rfl (λ_ _=>rfl) (.inr ⟨rfl,rfl,rfl⟩) rfl
   (λo h=>by cases h) (some g) e8 (λk hk=>.inr ⟨rfl,by
    cases hk;rw [hg]
    have:cap≠0:=by have:=hl.1;omega
    simp [bY,this]⟩) (λb hb=>.inr (.inr ⟨rfl,hb⟩)) (λ_=>by
    refine ⟨(F l).map (Value.int .i64),.inl ⟨⟨by simp,.inr ⟨g,cap,_,by rw [hg];exact congrArg (λk=>Value.slice _ k cap) hlen.symm,cI _,cb,by show (F l).length<=cap;omega,jV,by simp [Sort.putCells];omega,?_⟩⟩,λad m h=>by rw [hg] at h;cases h;have:=hl.1;omega⟩,K9.2 rfl,λx hx=>rfl,λx=>dq x⟩
    apply o7
    intro j
    rw [kR]
    by_cases hj:j < (F l).length
    ·rw [if_pos (by simpa using hj),kB,eG hj,Dz]
     simp only [Sort.putCells,Array.getElem?_mapIdx]
     rw [sY (show j < cur.size by omega)]
     simp [hj]
    ·rw [if_neg (by simpa using hj),oD (by simp;omega)])
  refine ⟨.tuple #[],_,η,H,.cd [],rfl,?_,⟨rfl,D'.sv,by rw [hd];rfl,D'.h0,D'.hw,D'.fw,D'.hf,D'.sl,D'.dj,D'.dh,D'.os,D'.tape,D'.out⟩,?_⟩
  ·refine ⟨(),[],[],?_,?_,⟨trivial⟩⟩
   ·exact aW
   ·exact aW
  ·simp [rel,aL]⟩
def qa (l:List Int):List Int:=l.mergeSort λx y=>decide (x<=y)
theorem M4:l5 PP 265 (XD 3 qa) :=
 afT 3 qa (λl=>List.length_mergeSort l) ahr λblk cap zs w h1 h2 h3=>Any.slices_Sort_int Tryz.aeQ blk 0 cap zs w h1 h2 h3
theorem L9 (x y:Int):∀l:List Int,dU (l++[x,y])=if x=y then dU (l++[x]) else dU (l++[x])++[y]
 | []=>by
  show (if x=y then dU [y] else x :: dU [y])=_
  split
  ·rename_i e;rw [e];rfl
  ·rfl
 | [z]=>by
  show (if z=x then dU ([]++[x,y]) else z :: dU ([]++[x,y]))=if x=y then (if z=x then dU [x] else z :: dU [x]) else (if z=x then dU [x] else z :: dU [x])++[y]
  rw [L9 x y []]
  by_cases h:x=y<;>by_cases h2:z=x<;>simp [h,h2]
 | z :: w :: r=>by
  have ih:=L9 x y (w :: r)
  show (if z=w then dU (w :: r++[x,y]) else z :: dU (w :: r++[x,y]))=if x=y then (if z=w then dU (w :: r++[x]) else z :: dU (w :: r++[x])) else (if z=w then dU (w :: r++[x]) else z :: dU (w :: r++[x]))++[y]
  rw [ih]
  by_cases h:x=y<;>by_cases h2:z=w<;>simp [h,h2]
theorem Hd {l:List Int} {k:Nat} {x y:Int} (hx:l[k]?=some x) (hy:l[k+1]?=some y):dU (l.take (k+2))=if x=y then dU (l.take (k+1)) else dU (l.take (k+1))++[y]:=by
 rw [iT (i:=k+1),hy,iT (i:=k),hx]
 simp only [mW,vB,List.singleton_append]
 exact L9 x y _
structure pA (l:List Int) (k w j:Nat) (R:List Int):Prop where
 j1:1<=j
 w1:1<=w
 wk:w+1<=k+j
 kj:k+j<=l.length
 len:R.length=l.length
 at_:∀i,k+j<=i+1->R[i]?=l[i]?
 pre:R.take w=dU (l.take (k+j))
theorem pA.start {l:List Int} {k:Nat} {x:Int} (h:l.take k=dU (l.take k)) (hk:1<=k) (hy:l[k]?=some x) (hx:l[k - 1]?=some x):pA l k k 1 l:=by
 have aP:=(bf.1 hy).1
 refine ⟨fN _,hk,fN _,aP,rfl,λi _=>rfl,?_⟩
 have:=Hd (l:=l) (k:=k - 1) hx (by rw [show k - 1+1=k by omega];exact hy)
 rw [show k - 1+2=k+1 by omega,if_pos rfl,show k - 1+1=k by omega,<-h] at this
 exact this.symm
theorem pA.skip {l R:List Int} {k w j:Nat} {x:Int} (h:pA l k w j R) (hy:R[k+j]?=some x) (hx:R[k+j - 1]?=some x):pA l k w (j+1) R:=by
 have:=h.j1;have:=h.w1;have:=h.wk
 rw [h.at_ _ (by omega)] at hx hy
 have aP:=(bf.1 hy).1
 refine ⟨by omega,h.w1,by omega,by omega,h.len,λi hi=>h.at_ i (by omega),?_⟩
 have:=Hd (l:=l) (k:=k+j - 1) hx (by rw [show k+j - 1+1=k+j by omega];exact hy)
 rw [show k+j - 1+2=k+(j+1) by omega,if_pos rfl,show k+j - 1+1=k+j by omega] at this
 rw [h.pre,this]
theorem pA.add {l R:List Int} {k w j:Nat} {x y:Int} (h:pA l k w j R) (hy:R[k+j]?=some y) (hx:R[k+j - 1]?=some x) (bR:x≠y):pA l k (w+1) (j+1) (R.set w y):=by
 have:=h.j1;have:=h.w1;have:=h.wk
 rw [h.at_ _ (by omega)] at hx hy
 have aP:=(bf.1 hy).1
 have hl:=h.len
 refine ⟨by omega,by omega,by omega,by omega,by rw [y8];exact h.len,λi hi=>?_,?_⟩
 ·rw [fS (by omega)];exact h.at_ i (by omega)
 have:=Hd (l:=l) (k:=k+j - 1) hx (by rw [show k+j - 1+1=k+j by omega];exact hy)
 rw [show k+j - 1+2=k+(j+1) by omega,if_neg bR,show k+j - 1+1=k+j by omega] at this
 rw [this,<-h.pre,iT,nL (by omega),mW,List.take_set_of_le (fN _)]
def EF (l:List Int):Option (List Int)->List Int
 | none=>l
 | some r=>dU l++r
@[reducible] noncomputable def afU:nU where
 α:=List Int
 args _:=[.own 0]
 io l:=[.dyn 3 1 bJ (λ_=>l)]
 pre l:=l.length<=1000000
 β:=Option (List Int)
 post l y:=y=none->dU l=l
 mv:=[]
 res l y:=match y with
  | none=>.own 0
  | some _=>.eA 0 1 (λ_=>0) (λ_=>(dU l).length)
 ld l y:=[.dyn 3 1 bJ (λ_=>EF l y)]
noncomputable def aiO (n m:Nat):Ctx:=cW n m [] []
theorem M5 (n m:Nat):CB PP (aiO n m):=cZ n m trivial trivial
theorem TX:l5 PP 302 afU:=by
 refine qZ (M5 0 0) (fo Tryz.func302) (λa y=>rfl) (λa=>⟨rfl,rfl⟩) xe ?_
 intro l hx
 have hl:l.length<=1000000:=hx
 have j6:l.length < 2->dU l=l:=λh=>by
  match l,h with
  | [],_=>rfl
  | [x],_=>rfl
 have wy:dU (l.take 1)=l.take 1:=by
  match l with
  | []=>rfl
  | x :: r=>rfl
 refine ⟨?_⟩
 cbv
 refine ⟨λh=>?_,λh=>?_⟩
 ·have h':l.length < 2:=aG
  have hp:(none:Option (List Int))=none->dU l=l:=λ_=>j6 h'
  cbv
  exact ⟨none,[],[],by exact aW,by exact aW,⟨hp⟩⟩
 have h2:2<=l.length:=aG
 cbv
 refine Sat.dP (M5 0 0) 1 3 [] (λi:Nat=>[(3,.i .i64 (λ_=>(i:Int)))]) (λ_=>[]) (λi=>1<=i/\i<=l.length/\dU (l.take i)=l.take i) (λi=>l.length - i) 1 (by exact bq) (by exact aW) ⟨fN _,by omega,wy⟩ ?_
 intro i hi
 obtain ⟨eW,bO,sF⟩:1<=i/\i<=l.length/\dU (l.take i)=l.take i:=hi
 have h0:=n0 i
 have h1:=eh (i:=i) (by omega)
 have x7:IntKind.i64.wrap ((i:Int) - 1)=((i - 1:Nat):Int):=by rw [dV (by omega) (by omega)];omega
 cbv
 refine ⟨λh=>?_,λh=>?_⟩
 ·have wE:i < l.length:=aG
  refine (cg wE).elim λy hy=>?_
  refine (cg (l:=l) (i:=i - 1) (by omega)).elim λx hx=>?_
  have wo:0<=IntKind.i64.wrap ((i:Int) - 1)/\(IntKind.i64.wrap ((i:Int) - 1)).toNat < l.length:=by rw [x7];exact ⟨n0 _,by rw [iS];omega⟩
  have om:l[(IntKind.i64.wrap ((i:Int) - 1)).toNat]?=some x:=by rw [x7];exact hx
  have j2:0<=(i:Int)/\(i:Int).toNat < l.length:=⟨h0,wE⟩
  have J5:x=y->pA l i i 1 l:=λe=>.start sF.symm eW hy (e ▸ hx)
  have CS:x≠y->dU (l.take (i+1))=l.take (i+1):=λe=>by
   have:=Hd (l:=l) (k:=i - 1) hx (by rw [show i - 1+1=i by omega];exact hy)
   rw [show i - 1+2=i+1 by omega,if_neg e,show i - 1+1=i by omega,sF] at this
   rw [this,iT,hy];rfl
  have cf:l.length - (i+1) < l.length - i:=by omega
  have gz:(0:Int)<=(i:Int)/\(i:Int)<=(l.length:Int)/\(l.length:Int)<=(l.length:Int):=⟨h0,by omega,kS _⟩
  cbv
  refine ⟨⟨j2⟩,y,⟨hy,rfl⟩,?_⟩
  cbv
  refine ⟨⟨wo⟩,x,⟨om,rfl⟩,?_⟩
  cbv
  refine ⟨λh=>?_,λh=>?_⟩
  ·have wB:y=x:=aG
   have hJ:=J5 wB.symm
   cbv
   refine ⟨⟨gz⟩,?_⟩
   cbv
   refine Sat.dP (M5 0 0) 1 3 [] (λg:Nat × Nat × List Int=>[(3,.i .i64 (λ_=>(g.1:Int))),(4,.eA 0 1 (λ_=>i) (λ_=>l.length)),(5,.i .i64 (λ_=>(g.2.1:Int)))]) (λg=>[(0,.dyn 3 1 bJ (λ_=>g.2.2))]) (λg=>pA l i g.1 g.2.1 g.2.2) (λg=>l.length - g.2.1) (i,1,l) (by ((try cbv)<;>(repeat' (first|with_reducible exact trivial|with_reducible refine And.intro ?_ ?_))<;>(try first|exact cy.refl _|exact cy.dyn rfl|exact cy.map rfl|exact cy.iter rfl rfl (.inl rfl)|exact cy.iter rfl rfl (.inr rfl)|refine cy.fix ?_|refine cy.dyn ?_)<;>((repeat' first|exact cO.nil|exact Le.refl _|refine cO.cons ?_ ?_|exact Le.ic rfl|exact Le.bc rfl|exact Le.i rfl|exact Le.b rfl|exact Le.sl rfl|exact Le.mp rfl|exact Le.fC rfl|exact Le.nX rfl|refine Le.cG rfl (λ_=>?_)|refine Le.dK rfl (λ_ _=>rfl) (λ_=>?_) ?_|refine Le.agg ?_|refine Le.cd ?_|refine Le.fn ?_ ?_|refine Le.db ?_|exact trivial|refine And.intro ?_ ?_|refine λ_=>?_|exact Le.any _)))<;>first|exact .eA (iS _) (iS _)|exact .ic rfl) (by exact aW) hJ ?_
   rintro ⟨w,j,R⟩ hJ
   have hJ:pA l i w j R:=hJ
   have wF:=n0 w
   have jg:=n0 j
   obtain ⟨lg,ZF,hwk,hkj,hlen,-,dR⟩:=id hJ
   have PE:=eh (i:=w) (by omega)
   have XE:=eh (i:=j) (by omega)
   have FU:IntKind.i64.wrap ((j:Int) - 1)=((j - 1:Nat):Int):=by rw [dV (by omega) (by omega)];omega
   cbv
   refine ⟨λh=>?_,λh=>?_⟩
   ·have ei:j < l.length - i:=aG
    have ou:i+j < R.length:=by have:=hlen;omega
    refine (cg ou).elim λy' qf=>?_
    refine (cg (l:=R) (i:=i+j - 1) (by omega)).elim λx' jD=>?_
    have k9:0<=(j:Int)/\(j:Int).toNat < l.length - i:=⟨jg,by rw [iS];exact ei⟩
    have jc:R[i+(j:Int).toNat]?=some y':=by rw [iS];exact qf
    have Aj:0<=IntKind.i64.wrap ((j:Int) - 1)/\(IntKind.i64.wrap ((j:Int) - 1)).toNat < l.length - i:=by rw [FU];exact ⟨n0 _,by rw [iS];omega⟩
    have k8:R[i+(IntKind.i64.wrap ((j:Int) - 1)).toNat]?=some x':=by rw [FU,iS,show i+(j - 1)=i+j - 1 by omega];exact jD
    have wv:0<=(w:Int)/\(w:Int).toNat < R.length:=⟨wF,by rw [iS];omega⟩
    refine (cg (l:=R) (i:=(w:Int).toNat) wv.2).elim λu hu=>?_
    have cf:l.length - (j+1) < l.length - j:=by omega
    have CT:x'=y'->pA l i w (j+1) R:=λe=>hJ.skip qf (e ▸ jD)
    have FZ:x'≠y'->pA l i (w+1) (j+1) (R.set (w:Int).toNat y'):=λe=>by rw [iS];exact hJ.add qf jD e
    obtain ⟨R',oS⟩:∃R',R.set (w:Int).toNat y'=R':=⟨_,rfl⟩
    rw [oS] at FZ
    cbv
    refine ⟨⟨k9⟩,y',⟨jc,rfl⟩,?_⟩
    cbv
    refine ⟨⟨Aj⟩,x',⟨k8,rfl⟩,?_⟩
    cbv
    refine ⟨λh=>?_,λh=>?_⟩
    ·have bR:¬y'=x':=aG
     have fv:pA l i (w+1) (j+1) R'/\l.length - (j+1) < l.length - j:=⟨FZ λe=>bR e.symm,cf⟩
     cbv
     refine ⟨⟨k9⟩,y',⟨jc,rfl⟩,?_⟩
     cbv
     refine ⟨⟨wv⟩,(u,y'),⟨hu,rfl,by exact e9⟩,?_⟩
     cbv
     exact ⟨(w+1,j+1,R'),by have bK:=PE;have js:=XE;exact bq,by have eH:=oS;exact bq,⟨fv⟩⟩
    ·have he:y'=x':=aG
     have fv:pA l i w (j+1) R/\l.length - (j+1) < l.length - j:=⟨CT he.symm,cf⟩
     cbv
     exact ⟨(w,j+1,R),by have bK:=XE;exact bq,by exact aW,⟨fv⟩⟩
   ·have ei:l.length - i<=j:=aG
    have ou:i+j=l.length:=by omega
    have hp:R.take w=dU l:=by rw [dR,ou,iM (fN _)]
    have k9:0<=(w:Int)/\(w:Int)<=(R.length:Int)/\(R.length:Int)<=(R.length:Int):=⟨wF,by omega,kS _⟩
    have j3:(dU l).length=w:=by rw [<-hp,lq];omega
    have hq:(w:Int).toNat=(dU l).length:=by rw [j3];rfl
    obtain ⟨r,PF⟩:∃r,List.replicate ((R.length:Int).toNat - (w:Int).toNat) (0:Int)++R.drop ((w:Int).toNat+((R.length:Int).toNat - (w:Int).toNat))=r:=⟨_,rfl⟩
    have hr:R.take (w:Int).toNat++List.replicate ((R.length:Int).toNat - (w:Int).toNat) (0:Int)++R.drop ((w:Int).toNat+((R.length:Int).toNat - (w:Int).toNat))=dU l++r:=by rw [vB,PF,iS,hp]
    have hN:(0:Int)<=0/\(0:Int)<=(w:Int)/\(w:Int)<=((R.take (w:Int).toNat++List.replicate ((R.length:Int).toNat - (w:Int).toNat) (0:Int)++R.drop ((w:Int).toNat+((R.length:Int).toNat - (w:Int).toNat))).length:Int):=⟨kS _,wF,by rw [hr,gn,j3];omega⟩
    cbv
    refine ⟨⟨k9⟩,?_⟩
    cbv
    refine ⟨0,⟨by exact e9⟩,?_⟩
    cbv
    refine ⟨⟨hN⟩,?_⟩
    cbv
    exact ⟨some r,[],[],by ((try cbv)<;>(repeat' (first|with_reducible exact trivial|with_reducible refine And.intro ?_ ?_))<;>(try first|exact cy.refl _|exact cy.dyn rfl|exact cy.map rfl|exact cy.iter rfl rfl (.inl rfl)|exact cy.iter rfl rfl (.inr rfl)|refine cy.fix ?_|refine cy.dyn ?_)<;>((repeat' first|exact cO.nil|exact Le.refl _|refine cO.cons ?_ ?_|exact Le.ic rfl|exact Le.bc rfl|exact Le.i rfl|exact Le.b rfl|exact Le.sl rfl|exact Le.mp rfl|exact Le.fC rfl|exact Le.nX rfl|refine Le.cG rfl (λ_=>?_)|refine Le.dK rfl (λ_ _=>rfl) (λ_=>?_) ?_|refine Le.agg ?_|refine Le.cd ?_|refine Le.fn ?_ ?_|refine Le.db ?_|exact trivial|refine And.intro ?_ ?_|refine λ_=>?_|exact Le.any _)))<;>exact .eA rfl hq,by have eH:=hr;exact bq,⟨λe=>by cases e⟩⟩
  ·have wB:¬y=x:=aG
   have hn:=CS λe=>wB e.symm
   have fv:(1<=i+1/\i+1<=l.length/\dU (l.take (i+1))=l.take (i+1))/\l.length - (i+1) < l.length - i:=⟨⟨DH _ _,wE,hn⟩,cf⟩
   cbv
   exact ⟨i+1,by have bK:=h1;exact bq,by exact aW,⟨fv⟩⟩
 ·have bV:l.length<=i:=aG
  have hp:(none:Option (List Int))=none->dU l=l:=λ_=>by rw [iM bV] at sF;exact sF
  cbv
  exact ⟨none,[],[],by exact aW,by exact aW,⟨hp⟩⟩
structure aiP where
 a:List Int
 b:List Int
@[reducible] noncomputable def Og:Vc.Spec where
 α:=aiP
 args x:=[.sl 1 bJ (λ_=>x.a),.sl 1 bJ (λ_=>x.b)]
 pre x:=x.a.length<=100000/\x.b.length<=100000
 res x:=.sl 1 bJ (λ_=>jR x.a x.b)
 fr:=true
noncomputable def aiQ (n m:Nat):Ctx:=cW n m [(211,Tryz.f211),(250,Tryz.f250),(265,Tryz.f265),(302,Tryz.f302)] [] [265,302]
theorem afV (n m:Nat):CB PP (aiQ n m):=cZ n m ⟨fo Tryz.func211,fo Tryz.func250,fo Tryz.func265,fo Tryz.func302,trivial⟩ trivial
theorem Vw:cY (PP ()) 270 Og:=by
 refine Vm (afV 0 0) (fo Tryz.func270) (λa=>⟨λx=>(dq x).1,λx=>(dq x).1,trivial⟩) (λa=>λx=>(dq x).1) ?_
 rintro ⟨a,b⟩ hx
 obtain ⟨ha,hb⟩:a.length<=100000/\b.length<=100000:=hx
 rcases y6 (a.length+b.length) with hz|x4
 ·obtain rfl:a=[]:=gM (by omega)
  obtain rfl:b=[]:=gM (by omega)
  have w1:IntKind.i64.wrap (0+((([]:List Int).length:Nat):Int))=0:=by decide
  have f1:¬IntKind.i64.wrap (0+((([]:List Int).length:Nat):Int)) < 0:=by decide
  have f2:¬IntKind.i64.wrap (IntKind.i64.wrap (0+((([]:List Int).length:Nat):Int))+((([]:List Int).length:Nat):Int)) < 0:=by decide
  have f3:¬0 < IntKind.i64.wrap (IntKind.i64.wrap (IntKind.i64.wrap (0+((([]:List Int).length:Nat):Int))+((([]:List Int).length:Nat):Int)) - 0):=by decide
  have hu:([]:List Int)=jR [] []:=rfl
  have F1:qa []=[]:=by simp [qa]
  have Ah:([]:List Int).length < 4611686018427387904:=by decide
  have hp9:([]:List Int).length<=1000000:=by decide
  have b1:(([]:List Int).length)*8<=140737488355328:=by decide
  have b2:([]:List Int).length<=9223372036854775807:=by decide
  have b3:(([]:List Int).length+([]:List Int).length)*8<=140737488355328:=by decide
  have b4:([]:List Int).length+([]:List Int).length<=9223372036854775807:=by decide
  refine ⟨?_⟩
  cbv
  refine ⟨λh=>?_,λ_=>?_⟩
  ·have h':IntKind.i64.wrap (0+((([]:List Int).length:Nat):Int)) < 0:=aG
   cases f1 h'
  cbv
  refine ⟨λh=>?_,λ_=>?_⟩
  ·have h':IntKind.i64.wrap (IntKind.i64.wrap (0+((([]:List Int).length:Nat):Int))+((([]:List Int).length:Nat):Int)) < 0:=aG
   cases f2 h'
  cbv
  refine ⟨λh=>?_,λ_=>?_⟩
  ·have h':IntKind.i64.wrap (IntKind.i64.wrap (0+((([]:List Int).length:Nat):Int))+((([]:List Int).length:Nat):Int)) < 0:=aG
   cases f2 h'
  cbv
  refine ⟨λh=>?_,λ_=>?_⟩
  ·have h':0 < IntKind.i64.wrap (IntKind.i64.wrap (IntKind.i64.wrap (0+((([]:List Int).length:Nat):Int))+((([]:List Int).length:Nat):Int)) - 0):=aG
   cases f3 h'
  cbv
  refine ⟨[],⟨by exact e9,b1,b2⟩,?_⟩
  cbv
  refine ⟨[],⟨by exact e9,b3,b4⟩,?_⟩
  cbv
  refine iW.tP M4 (λa y=>trivial) [] [2] rfl (by exact a8) (by exact aW) ⟨Ah⟩ λy _=>?_
  cbv
  refine iW.io TX [] [2] rfl (by exact a8) (by have eH:=F1;exact bq) ⟨hp9⟩ λy hy=>?_
  rcases y with _|r
  ·cbv
   refine ⟨?_⟩
   cbv
   exact ⟨by have iJ:=hu;exact wD,λx=>rfl⟩
  ·have hle:(dU []).length<=(EF [] (some r)).length:=cI _
   have hr:((EF [] (some r)).take (dU []).length).drop 0=jR [] []:=rfl
   cbv
   refine ⟨?_⟩
   exact ⟨rfl,hle,.sl hr,λx=>rfl⟩
 have w1:IntKind.i64.wrap (0+(a.length:Int))=a.length:=by rw [dV (by omega) (by omega)];omega
 have w2:IntKind.i64.wrap (IntKind.i64.wrap (0+(a.length:Int))+(b.length:Int))=(a.length:Int)+b.length:=by rw [w1,dV (by omega) (by omega)]
 have w3:IntKind.i64.wrap (IntKind.i64.wrap (IntKind.i64.wrap (0+(a.length:Int))+(b.length:Int)) - 0)=(a.length:Int)+b.length:=by rw [w2,dV (by omega) (by omega)];omega
 have f1:¬IntKind.i64.wrap (0+(a.length:Int)) < 0:=by omega
 have f2:¬IntKind.i64.wrap (IntKind.i64.wrap (0+(a.length:Int))+(b.length:Int)) < 0:=by omega
 have f3:¬IntKind.i64.wrap (IntKind.i64.wrap (IntKind.i64.wrap (0+(a.length:Int))+(b.length:Int)) - 0)<=0:=by omega
 obtain ⟨zs,iH,FE⟩:∃zs:List Int,zs.length=a.length+b.length/\∀y∈zs,y=0:=⟨List.replicate (a.length+b.length) 0,y4 ..,λy hy=>(Bu.1 hy).2⟩
 have z1:(zs.length:Int)=IntKind.i64.wrap (IntKind.i64.wrap (IntKind.i64.wrap (0+(a.length:Int))+(b.length:Int)) - 0):=by rw [w3,iH];exact Int.natCast_add ..
 have z2:zs.length*8<=140737488355328:=by omega
 have z3:zs.length<=9223372036854775807:=by omega
 have b1:((0:Int).toNat+a.length)*8<=140737488355328:=by rw [show (0:Int).toNat=0 from rfl];omega
 have b2:(0:Int).toNat+a.length<=9223372036854775807:=by rw [show (0:Int).toNat=0 from rfl];omega
 have PG:zs.take (0:Int).toNat++a=a:=by rw [show (0:Int).toNat=0 from rfl];rfl
 have b3:((zs.take (0:Int).toNat++a).length+b.length)*8<=140737488355328:=by rw [PG];omega
 have b4:(zs.take (0:Int).toNat++a).length+b.length<=9223372036854775807:=by rw [PG];omega
 obtain ⟨l,hl⟩:∃l,zs.take (0:Int).toNat++a++b=l:=⟨_,rfl⟩
 have k8:l=a++b:=by rw [<-hl,PG]
 have l9:l.length=a.length+b.length:=by rw [k8,gn]
 obtain ⟨m,hm⟩:∃m,qa l=m:=⟨_,rfl⟩
 have wm:l.length < 4611686018427387904:=by omega
 have Fy:m.length<=1000000:=by rw [<-hm,qa,List.length_mergeSort];omega
 have jq:dU m=jR a b:=by
  refine acj ?_ (by rw [<-hm,<-k8];exact List.mergeSort_perm l _)
  rw [<-hm]
  have:=Sk (le:=λx y:Int=>decide (x<=y)) (λa b c h1 h2=>by simp only [decide_eq_true_eq] at *;omega) (λa b=>by simp only [nM,decide_eq_true_eq];omega) l
  unfold qa
  simpa using this
 refine ⟨?_⟩
 cbv
 refine ⟨λh=>?_,λ_=>?_⟩
 ·have h':IntKind.i64.wrap (0+(a.length:Int)) < 0:=aG
  cases f1 h'
 cbv
 refine ⟨λh=>?_,λ_=>?_⟩
 ·have h':IntKind.i64.wrap (IntKind.i64.wrap (0+(a.length:Int))+(b.length:Int)) < 0:=aG
  cases f2 h'
 cbv
 refine ⟨λh=>?_,λ_=>?_⟩
 ·have h':IntKind.i64.wrap (IntKind.i64.wrap (0+(a.length:Int))+(b.length:Int)) < 0:=aG
  cases f2 h'
 cbv
 refine ⟨λ_=>?_,λh=>?_⟩
 rotate_left
 ·have h':IntKind.i64.wrap (IntKind.i64.wrap (IntKind.i64.wrap (0+(a.length:Int))+(b.length:Int)) - 0)<=0:=aG
  cases f3 h'
 cbv
 refine ⟨zs,⟨z1,λy hy=>by rw [FE y hy];exact e9,z2,z3⟩,?_⟩
 cbv
 refine ⟨⟨kS 0,kS 0,n0 _⟩,a,⟨⟨rfl,cI _⟩,by exact e9,b1,b2⟩,?_⟩
 cbv
 refine ⟨b,⟨by exact e9,b3,b4⟩,?_⟩
 cbv
 refine iW.tP M4 (λa y=>trivial) l [3] rfl (by exact a8) (by have eH:=hl;exact bq) ⟨wm⟩ λy _=>?_
 cbv
 refine iW.io TX m [3] rfl (by exact a8) (by have eH:=hm;exact bq) ⟨Fy⟩ λy hy=>?_
 rcases y with _|r
 ·have he:dU m=m:=hy.out rfl
  have hr:=he.symm.trans jq
  cbv
  refine ⟨?_⟩
  cbv
  exact ⟨by have iJ:=hr;exact wD,λx=>rfl⟩
 ·have hle:(dU m).length<=(EF m (some r)).length:=by show _<=(dU m++r).length;rw [gn];omega
  have hr:((EF m (some r)).take (dU m).length).drop 0=jR a b:=by show ((dU m++r).take (dU m).length).drop 0=_;rw [Be,List.drop_zero,jq]
  cbv
  refine ⟨?_⟩
  exact ⟨rfl,hle,.sl hr,λx=>rfl⟩
theorem adG {A:Type} {f:A->Bool} {l:List A} {i:Nat} {x:A} (h:l[i]?=some x):(l.take (i+1)).any f=((l.take i).any f||f x):=by
 rw [iT,h];simp
theorem TY {A:Type} {f:A->Bool} {l:List A} {i:Nat} {x:A} (h:l[i]?=some x):(l.take (i+1)).all f=((l.take i).all f&&f x):=by
 rw [iT,h];simp
theorem aeS {a b:List Int} {i:Nat} {x:Int} (h:a[i]?=some x) (hf:b.contains x=false):dA a b=false :=
 Bool.eq_false_iff.2 λhs=>by
  have:=gE.1 (show a.all (λx=>b.contains x)=true from hs) x (cM h)
  rw [hf] at this;cases this
@[reducible] noncomputable def Oh:Vc.Spec where
 α:=L2
 args x:=[.sl 1 bJ (λ_=>x.a),.sl 1 bJ (λ_=>x.b)]
 pre x:=x.a.length<=1000000/\x.b.length<=1000000
 res x:=.b (λ_=>dA x.a x.b)
noncomputable def aiR (n m:Nat):Ctx:=cW n m [(82,Tryz.f82),(176,Tryz.f176),(321,Tryz.f321)] [(263,IS)] [] [176]
theorem Vx (n m:Nat):CB PP (aiR n m):=cZ n m ⟨fo Tryz.func82,fo Tryz.func176,fo Tryz.func321,trivial⟩ ⟨MM,trivial⟩
theorem Vy:cY (PP ()) 305 Oh:=by
 refine e6 (Vx 0 0) (fo Tryz.func305) (λa=>⟨λx=>(dq x).1,λx=>(dq x).1,trivial⟩) (λa=>trivial) ?_
 rintro ⟨a,b⟩ hx
 obtain ⟨ha,hb⟩:a.length<=1000000/\b.length<=1000000:=hx
 have gG:b.length<=1000000000000:=by omega
 obtain ⟨f,hf⟩:∃f,f=λx=>b.contains x:=⟨_,rfl⟩
 have hu:dA a b=a.all f:=by rw [hf];rfl
 have hz:(a.take 0).all f=true:=rfl
 refine ⟨?_⟩
 cbv
 refine Sat.dP (Vx 0 0) 1 8 [] (λi:Nat=>[(8,.i .i64 (λ_=>(i:Int)))]) (λi=>[])
  (λi=>i<=a.length/\(a.take i).all f=true) (λi=>a.length - i) 0 (by exact aW) (by exact aW) ⟨cI _,hz⟩ ?_
 rintro i ⟨hi,ht⟩
 have h0:=n0 i
 have h1:=eh (i:=i) (by omega)
 cbv
 refine ⟨λh=>?_,λh=>?_⟩
 ·have bO:i < a.length:=aG
  have cf:a.length - (i+1) < a.length - i:=by omega
  refine (cg bO).elim λx hx=>?_
  cbv
  refine ⟨x,⟨h0,hx⟩,?_⟩
  cbv
  refine ⟨⟨b,x⟩,⟨by exact a8,gG⟩,?_⟩
  cbv
  refine ⟨λh=>?_,λh=>?_⟩
  ·have PH:b.contains x=false:=by have h':(!b.contains x)=true:=h.out;simpa using h'
   have e:(!iG 0 (i:Int))=dA a b:=by rw [aeS hx PH];simp [iG]
   cbv
   exact ⟨by have ny:=e;exact bM⟩
  ·have PH:b.contains x=true:=by have h':(!b.contains x)=false:=h.out;simpa using h'
   have cb:i+1<=a.length/\(a.take (i+1)).all f=true:=⟨bO,by rw [TY hx,ht,hf];exact PH⟩
   cbv
   exact ⟨i+1,by have bK:=h1;exact bq,by exact aW,⟨⟨cb,cf⟩⟩⟩
 ·have bV:a.length<=i:=aG
  have e:true=dA a b:=by rw [hu,<-ht,iM bV]
  cbv
  exact ⟨by have eV:=e;exact bM⟩
structure pB (x:List Int) (L:List (List Int)) (i j:Nat) (R:List (List Int)):Prop where
 ij:i<=j
 jl:j<=L.length
 len:R.length=L.length
 at_:∀k,j<=k->R[k]?=L[k]?
 pre:R.take i=(L.take j).filter (λy=>!dA x y)
theorem KW {A:Type} {f:A->Bool} {l:List A} {j:Nat} {y:A} (h:l[j]?=some y):(l.take (j+1)).filter f=(l.take j).filter f++(if f y then [y] else []):=by
 rw [iT,h,Lu,mW]
 congr 1
 by_cases hf:f y=true
 ·simp [hf]
 ·simp [hf]
theorem pB.skip {x:List Int} {L R:List (List Int)} {i j:Nat} {y:List Int} (h:pB x L i j R) (hy:L[j]?=some y) (hs:dA x y=true):pB x L i (j+1) R:=by
 have aP:=(bf.1 hy).1
 refine ⟨by have:=h.ij;omega,aP,h.len,λk hk=>h.at_ k (by omega),?_⟩
 rw [KW hy,h.pre,hs];simp
theorem pB.B8 {x:List Int} {L R:List (List Int)} {i j:Nat} {y:List Int} (h:pB x L i j R) (hy:L[j]?=some y) (hs:dA x y=false):pB x L (i+1) (j+1) (R.set i y):=by
 have aP:=(bf.1 hy).1
 have ou:=h.ij
 have hl:=h.len
 refine ⟨by omega,aP,by rw [y8];exact h.len,λk hk=>?_,?_⟩
 ·rw [fS (by omega)];exact h.at_ k (by omega)
 rw [KW hy,<-h.pre,hs,iT,nL (by omega),mW,List.take_set_of_le (fN _)];simp
theorem pB.start {x:List Int} {L:List (List Int)} {i:Nat} {y:List Int} (h:∀j,j < i->∀y,L[j]?=some y->dA x y=false) (hy:L[i]?=some y) (hs:dA x y=true):pB x L i (i+1) L:=by
 have aP:=(bf.1 hy).1
 refine ⟨Nat.le_succ _,aP,rfl,λ_ _=>rfl,?_⟩
 rw [KW hy,hs]
 simp only [Bool.not_true,mV,if_false,yU]
 rw [List.filter_eq_self.2]
 intro z hz
 obtain ⟨k,hk⟩:=qG hz
 rw [kR] at hk
 split at hk
 ·rw [h k (by assumption) z hk];rfl
 ·cases hk
theorem adH {L:List (List Int)} {x y:List Int} {i:Nat} (hy:L[i]?=some y) (hs:dA y x=true):kY L x=L:=by
 unfold kY
 rw [if_pos (Hl.2 ⟨y,cM hy,hs⟩)]
theorem adI {L:List (List Int)} {x:List Int} (h:(L.take L.length).any (λy=>dA y x)=false):kY L x=L.filter (λy=>!dA x y)++[x]:=by
 unfold kY
 rw [List.take_length] at h
 rw [if_neg (by rw [h];simp)]
structure Fg where
 l:Option (List (List Int))
 x:List Int
def Fg.dK (a:Fg):List (List Int):=a.l.getD []
def Fh (a:Fg):Prop:=a.x.length<=1000000/\a.dK.length<=1000000000/\∀y∈a.dK,y.length<=1000000
def nh (L:List (List Int)) (x:List Int):List (List Int):=L.filter (λy=>!dA x y)
def IT (L:List (List Int)) (x:List Int):Option (List (List Int))->List (List Int)
 | none=>L
 | some r=>nh L x++r
@[reducible] noncomputable def DlS:nU where
 α:=Fg
 args a:=match a.l with
  | none=>[.cG,.fn (.func 307) [] [.ptr 0 0]]
  | some _=>[.own 0,.fn (.func 307) [] [.ptr 1 0]]
 io a:=match a.l with
  | none=>[.fix 35 [.sl 1 bJ (λ_=>a.x)]]
  | some L=>[.dyn 35 1 fT (λ_=>L),.fix 35 [.sl 1 bJ (λ_=>a.x)]]
 pre a:=Fh a
 β:=Option (List (List Int))
 post a y:=y=none->nh a.dK a.x=a.dK
 mv:=[]
 res a y:=match a.l with
  | none=>.cG
  | some L=>match y with
   | none=>.own 0
   | some _=>.eA 0 1 (λ_=>0) (λ_=>(nh L a.x).length)
 ld a y:=match a.l with
  | none=>[.fix 35 [.sl 1 bJ (λ_=>a.x)]]
  | some L=>[.dyn 35 1 fT (λ_=>IT L a.x y),.fix 35 [.sl 1 bJ (λ_=>a.x)]]
theorem adJ {L:List (List Int)} {x:List Int} (k:∀j,j < L.length->∀y,L[j]?=some y->dA x y=false):nh L x=L:=by
 unfold nh
 rw [List.filter_eq_self]
 intro z hz
 obtain ⟨j,hj⟩:=qG hz
 rw [k j (bf.1 hj).1 z hj];rfl
noncomputable def cDl (n m:Nat):Ctx:=cW n m [(320,Tryz.f320),(307,Tryz.f307)] [(305,Oh)] [] [320]
theorem IU (n m:Nat):CB PP (cDl n m):=cZ n m ⟨fo Tryz.func320,fo Tryz.func307,trivial⟩ ⟨Vy,trivial⟩
theorem WI:l5 PP 306 DlS:=by
 refine qZ (IU 1 0) (fo Tryz.func306) (λa y=>by rcases a with ⟨_|_,_⟩<;>rfl) (λa=>by rcases a with ⟨_|_,_⟩<;>exact ⟨rfl,rfl⟩) xe ?_
 rintro ⟨_|L,x⟩ hx
 ·have hm:(none:Option (List (List Int)))=none->nh [] x=[]:=λ_=>rfl
  refine ⟨?_⟩
  cbv
  refine Sat.dP (IU 1 0) 1 8 [] (λ_:Unit=>[(8,.ic .i64 0)]) (λ_=>[]) (λ_=>True) (λ_=>0) () (by exact aW) (by exact aW) trivial ?_
  intro _ _
  cbv
  exact ⟨none,[],[],by exact aW,by exact aW,⟨hm⟩⟩
 ·obtain ⟨wo,hL,J6⟩:x.length<=1000000/\L.length<=1000000000/\∀y∈L,y.length<=1000000:=hx
  refine ⟨?_⟩
  cbv
  refine Sat.dP (IU 1 0) 2 8 [] (λi:Nat=>[(8,.i .i64 (λ_=>(i:Int)))]) (λ_=>[]) (λi=>i<=L.length/\∀j,j < i->∀y,L[j]?=some y->dA x y=false) (λi=>L.length - i) 0 (by exact aW) (by exact aW) ⟨cI _,λj h=>absurd h (s5 _)⟩ ?_
  intro i hi
  obtain ⟨hi,ha⟩:i<=L.length/\∀j,j < i->∀y,L[j]?=some y->dA x y=false:=hi
  have h0:=n0 i
  have h1:=eh (i:=i) (by omega)
  cbv
  refine ⟨λh=>?_,λh=>?_⟩
  rotate_left
  ·have bV:L.length<=i:=aG
   have hm:(none:Option (List (List Int)))=none->nh L x=L:=λ_=>adJ λj hj=>ha j (by omega)
   cbv
   exact ⟨none,[],[],by exact aW,by exact aW,⟨hm⟩⟩
  have bO:i < L.length:=aG
  have cf:L.length - (i+1) < L.length - i:=by omega
  refine (cg bO).elim λy hy=>?_
  have k9:0<=(i:Int)/\(i:Int).toNat < L.length:=⟨h0,bO⟩
  have dR:x.length<=1000000/\y.length<=1000000:=⟨wo,J6 y (cM hy)⟩
  cbv
  refine ⟨⟨k9⟩,y,⟨hy,rfl⟩,?_⟩
  cbv
  refine ⟨⟨x,y⟩,⟨by exact a8,dR⟩,?_⟩
  cbv
  refine ⟨λh=>?_,λh=>?_⟩
  rotate_left
  ·have hs:dA x y=false:=h.out
   have fv:(i+1<=L.length/\∀j,j < i+1->∀y,L[j]?=some y->dA x y=false)/\L.length - (i+1) < L.length - i:=⟨⟨bO,λj hj z hz=>by
    by_cases ra:j=i
    ·subst ra;rw [hy] at hz;cases hz;exact hs
    ·exact ha j (by omega) z hz⟩,cf⟩
   cbv
   exact ⟨i+1,by have bK:=h1;exact bq,by exact aW,⟨fv⟩⟩
  have hs:dA x y=true:=h.out
  have hJ:pB x L i (i+1) L:=.start ha hy hs
  have bR:¬(i:Int)=-1:=by omega
  clear h
  cbv
  refine ⟨λh=>?_,λ_=>?_⟩
  ·have h':(i:Int)=-1:=aG
   cases bR h'
  cbv
  refine Sat.dP (IU 1 0) 2 5 [] (λg:Nat × Nat × List (List Int)=>[(5,.i .i64 (λ_=>(g.1:Int))),(6,.i .i64 (λ_=>(g.2.1:Int)))]) (λg=>[(0,.dyn 35 1 fT (λ_=>g.2.2))]) (λg=>pB x L g.1 g.2.1 g.2.2) (λg=>L.length - g.2.1) (i,i+1,L) (by have bK:=h1;exact bq) (by exact aW) hJ ?_
  rintro ⟨w,j,R⟩ hJ
  have hJ:pB x L w j R:=hJ
  have wF:=n0 w
  have jg:=n0 j
  obtain ⟨hwj,hjL,hlen,qg,dR⟩:=id hJ
  have PE:=eh (i:=w) (by omega)
  have J5:=eh (i:=j) (by omega)
  cbv
  refine ⟨λh=>?_,λh=>?_⟩
  ·have ei:j < R.length:=aG
   refine (cg ei).elim λy' qf=>?_
   have PI:L[j]?=some y':=(qg j (fN _)).symm.trans qf
   have k9:0<=(j:Int)/\(j:Int).toNat < R.length:=⟨jg,by rw [iS];exact ei⟩
   have wv:0<=(w:Int)/\(w:Int).toNat < R.length:=⟨wF,by rw [iS];omega⟩
   refine (cg (l:=R) (i:=(w:Int).toNat) wv.2).elim λu hu=>?_
   have ahs:x.length<=1000000/\y'.length<=1000000:=⟨wo,J6 y' (cM PI)⟩
   have cf:L.length - (j+1) < L.length - j:=by omega
   have CT:dA x y'=true->pB x L w (j+1) R:=λe=>hJ.skip PI e
   have FZ:dA x y'=false->pB x L (w+1) (j+1) (R.set (w:Int).toNat y'):=λe=>by rw [iS];exact hJ.B8 PI e
   obtain ⟨R',oS⟩:∃R',R.set (w:Int).toNat y'=R':=⟨_,rfl⟩
   rw [oS] at FZ
   cbv
   refine ⟨⟨k9⟩,y',⟨qf,rfl⟩,?_⟩
   cbv
   refine ⟨⟨x,y'⟩,⟨by exact a8,ahs⟩,?_⟩
   cbv
   refine ⟨λh=>?_,λh=>?_⟩
   ·have hs:dA x y'=false:=by have h':(!dA x y')=true:=h.out;simpa using h'
    have fv:pB x L (w+1) (j+1) R'/\L.length - (j+1) < L.length - j:=⟨FZ hs,cf⟩
    cbv
    refine ⟨⟨wv⟩,(u,y'),⟨hu,rfl,by exact e9⟩,?_⟩
    cbv
    exact ⟨(w+1,j+1,R'),by have bK:=PE;have js:=J5;exact bq,by have eH:=oS;exact bq,⟨fv⟩⟩
   ·have hs:dA x y'=true:=by have h':(!dA x y')=false:=h.out;simpa using h'
    have fv:pB x L w (j+1) R/\L.length - (j+1) < L.length - j:=⟨CT hs,cf⟩
    cbv
    exact ⟨(w,j+1,R),by have bK:=J5;exact bq,by exact aW,⟨fv⟩⟩
  ·have ei:R.length<=j:=aG
   have hp:R.take w=nh L x:=by rw [dR,iM (by omega)];rfl
   have k9:0<=(w:Int)/\(w:Int)<=(R.length:Int)/\(R.length:Int)<=(R.length:Int):=⟨wF,by omega,kS _⟩
   have j3:(nh L x).length=w:=by rw [<-hp,lq];omega
   have hq:(w:Int).toNat=(nh L x).length:=by rw [j3];rfl
   obtain ⟨r,PF⟩:∃r,List.replicate ((R.length:Int).toNat - (w:Int).toNat) ([]:List Int)++R.drop ((w:Int).toNat+((R.length:Int).toNat - (w:Int).toNat))=r:=⟨_,rfl⟩
   have hr:R.take (w:Int).toNat++List.replicate ((R.length:Int).toNat - (w:Int).toNat) ([]:List Int)++R.drop ((w:Int).toNat+((R.length:Int).toNat - (w:Int).toNat))=nh L x++r:=by rw [vB,PF,iS,hp]
   have hN:(0:Int)<=0/\(0:Int)<=(w:Int)/\(w:Int)<=((R.take (w:Int).toNat++List.replicate ((R.length:Int).toNat - (w:Int).toNat) ([]:List Int)++R.drop ((w:Int).toNat+((R.length:Int).toNat - (w:Int).toNat))).length:Int):=⟨kS _,wF,by rw [hr,gn,j3];omega⟩
   cbv
   refine ⟨⟨k9⟩,?_⟩
   cbv
   refine ⟨[],⟨by exact e9⟩,?_⟩
   cbv
   refine ⟨⟨hN⟩,?_⟩
   cbv
   exact ⟨some r,[],[],by ((try cbv)<;>(repeat' (first|with_reducible exact trivial|with_reducible refine And.intro ?_ ?_))<;>(try first|exact cy.refl _|exact cy.dyn rfl|exact cy.map rfl|exact cy.iter rfl rfl (.inl rfl)|exact cy.iter rfl rfl (.inr rfl)|refine cy.fix ?_|refine cy.dyn ?_)<;>((repeat' first|exact cO.nil|exact Le.refl _|refine cO.cons ?_ ?_|exact Le.ic rfl|exact Le.bc rfl|exact Le.i rfl|exact Le.b rfl|exact Le.sl rfl|exact Le.mp rfl|exact Le.fC rfl|exact Le.nX rfl|refine Le.cG rfl (λ_=>?_)|refine Le.dK rfl (λ_ _=>rfl) (λ_=>?_) ?_|refine Le.agg ?_|refine Le.cd ?_|refine Le.fn ?_ ?_|refine Le.db ?_|exact trivial|refine And.intro ?_ ?_|refine λ_=>?_|exact Le.any _)))<;>exact .eA rfl hq,by have eH:=hr;exact bq,⟨λe=>by cases e⟩⟩
end Go.Proofs.Pk
