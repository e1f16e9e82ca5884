import Derived.Test.YthnhbemmlfaihaaR13
import Derived.Test.YthnhbemmlfaihaaR14
import Derived.Test.YthnhbemmlfaihaaR15
import Derived.Test.YthnhbemmlfaihaaR17
set_option linter.unusedVariables false
set_option linter.unusedSimpArgs false
set_option maxRecDepth 10000
set_option maxHeartbeats 64000000
namespace Go.Proofs.Pk
open Go Go.Vc
@[reducible] noncomputable def Z0:Vc.Spec where
 α:=Int
 args x:=[.i .u64 (λ_=>x)]
 pre x:=x=0
 res _:=.i .i64 (λ_=>0)
noncomputable def cLz (n m:Nat):Ctx:=cT n m [] []
theorem ahS (n m:Nat):CB PP (cLz n m):=cW n m trivial trivial
theorem ahT:dw (PP ()) 83 Z0:=by
 refine fH (ahS 0 0) (fo Try.func83) (λa=>⟨trivial,trivial⟩) (λa=>trivial) ?_
 intro x hx
 obtain rfl:x=0:=hx
 refine ⟨?_⟩
 cbv
 refine ⟨λh=>?_,λ_=>?_⟩
 ·have h':(4294967296:Int)<=0:=aJ
  cases (show False from absurd h' (by decide))
 cbv
 refine ⟨λh=>?_,λ_=>?_⟩
 ·have h':(65536:Int)<=0:=aJ
  cases (show False from absurd h' (by decide))
 cbv
 refine ⟨λh=>?_,λ_=>?_⟩
 ·have h':(256:Int)<=0:=aJ
  cases (show False from absurd h' (by decide))
 have e1:0<=IntKind.u8.wrap 0/\(IntKind.u8.wrap 0).toNat < 256:=by decide
 have e2:(IntKind.u8.wrap 0).toNat=0:=by decide
 have e3:IntKind.i64.wrap (0+IntKind.i64.wrap 0)=0:=by decide
 cbv
 exact ⟨⟨e1⟩,⟨by exact bN⟩⟩
@[reducible] noncomputable def Z1:Vc.Spec where
 α:=Unit
 args _:=[.sl 1 bK (λ_=>[])]
 pre _:=True
 res _:=.ca []
noncomputable def cSn (n m:Nat):Ctx:=cT n m [(63,Try.f63),(62,Try.f62),(73,Try.f73)] [(83,Z0)] [] [62,73]
theorem NY (n m:Nat):CB PP (cSn n m):=cW n m ⟨fo Try.func63,fo Try.func62,fo Try.func73,trivial⟩ ⟨ahT,trivial⟩
theorem ahU:dw (PP ()) 53 Z1:=by
 refine fH (NY 0 0) (fo Try.func53) (λa=>⟨λx=>(dv x).1,trivial⟩) (λa=>trivial) ?_
 intro x hx
 have u0:IntKind.u64.wrap ((([]:List Int).length:Nat):Int)=0:=by decide
 have w0:IntKind.i64.wrap (((([]:List Int).length:Nat):Int) - 0)=0:=by decide
 have f0:¬(12:Int) < IntKind.i64.wrap (((([]:List Int).length:Nat):Int) - 0):=by rw [w0];decide
 have f1:¬IntKind.i64.wrap (0+1) < ((([]:List Int).length:Nat):Int):=by decide
 refine ⟨?_⟩
 cbv
 refine ⟨0,⟨by have bI:=u0;exact bN,rfl⟩,?_⟩
 cbv
 refine Sat.eI (NY 0 0) 0 10 [] (λ_:Unit=>[]) (λ_=>[]) (λ_=>True) (λ_=>0) () (by exact aX) (by exact aX) trivial ?_
 intro _ _
 cbv
 refine ⟨λ_=>?_,λh=>?_⟩
 rotate_left
 ·have h':(12:Int) < IntKind.i64.wrap (((([]:List Int).length:Nat):Int) - 0):=aJ
  cases f0 h'
 cbv
 refine Sat.eI (NY 0 0) 0 8 [] (λ_:Unit=>[]) (λ_=>[]) (λ_=>True) (λ_=>0) () (by exact aX) (by exact aX) trivial ?_
 intro _ _
 cbv
 refine ⟨λh=>?_,λ_=>?_⟩
 ·have h':IntKind.i64.wrap (0+1) < ((([]:List Int).length:Nat):Int):=aJ
  cases f1 h'
 cbv
 exact ⟨by exact aY⟩
theorem Lv {H:aV}:∀{l:List Int} {vs:List Value},cQ H (l.flatMap bK) vs↔vs=l.map (Value.int .i64)
 | [],vs=>by simp [aK]
 | x :: r,vs=>by
  have ih:=@Lv H r
  rw [oM,show bK x++r.flatMap bK=SV.i .i64 (λ_=>x) :: r.flatMap bK from rfl]
  simp only [aK,rel,ih]
  constructor
  ·rintro ⟨v,lQ,rfl,rfl,rfl⟩;rfl
  ·rintro rfl;exact ⟨_,_,rfl,rfl,rfl⟩
@[reducible] noncomputable def X1 (e:TypeId) (F:List Int->List Int):oj where
 α:=List Int
 args _:=[.own 0]
 io l:=[.dyn e 1 bK (λ_=>l)]
 pre l:=l.length < 4611686018427387904
 β:=Unit
 post _ _:=True
 mv:=[]
 res _ _:=.ca []
 lz l _:=[.dyn e 1 bK (λ_=>F l)]
theorem afg {w:World} {e:TypeId} {sz:Nat} {v:Value} {vals:List Value} (h:pn w e sz v 0 vals):∃ad cap,v=.slice ad 0 cap:=by
 rcases h with ⟨h,-⟩|⟨⟨ad,h⟩,-⟩
 ·rcases h.2 with ⟨h,-⟩|⟨g,cap,cur,h,-⟩
  ·exact ⟨_,_,h⟩
  ·exact ⟨_,_,h⟩
 ·exact ⟨_,_,h⟩
theorem ad8 {w w':World} (hF:∀(b:Nat) (o:Obj),w.heap[b]?=some o->w'.heap[b]?=some o) (ho:w'.os=w.os) (ht:w'.tape=w.tape) (hu:w'.output=w.output):w.grownBy w' none:=by
 refine ⟨ho,ht,hu,?_,λb hb _=>?_⟩
 ·rcases zu w.heap.size with e|e
  ·omega
  ·have:=(fe.1 (hF (w.heap.size - 1) _ (tk (show w.heap.size - 1 < w.heap.size by omega)))).1;omega
 ·rw [tk hb];exact hF b _ (tk hb)
theorem agf {P:Unit->Program} {fid:FuncId} (e:TypeId) (F:List Int->List Int) (hF:∀l,(F l).length=l.length) (hN:dw (P ()) fid Z1)
  (hC:∀(blk cap:Nat) (zs:List Int) (w:World),Sort.Holds (Value.int .i64) w blk 0 zs.toArray->blk < w.heap.size->zs.length < 4611686018427387904 ->
   Calls (P ()) fid #[.slice (some ⟨blk,0,none⟩) zs.length cap] w λen w'=>en=.returned (.tuple #[])/\∃n os,w'=Sort.grow (Sort.putRow (Value.int .i64) (Sort.ahead w n) blk 0 (F zs).toArray) os) :
  ma P fid (X1 e F) where
 len _ _:=rfl
 old l j z h _:=by
  cases j with
  | zero=>cases h;rfl
  | succ j=>simp at h
 nu l y j h:=by
  cases j with
  | zero=>simp at h
  | succ j=>simp at h
 mv:=⟨xI,λ_ _ h=>by cases h⟩
 run l hl:=⟨λf η H a w hS hd D=>by
  obtain ⟨v,lQ,hv,jd,pA⟩:=D.t
  obtain rfl:lQ=[]:=pA
  have kD:v=η 0:=by simp only [rel,aN,Es,Slot.live] at jd;exact jd.1
  obtain ⟨vals,jF,oS,-,-⟩:=D.sl 0 _ rfl
  rcases zu l.length with hz|yR
  ·obtain rfl:l=[]:=gI hz
   have wU:F []=[]:=gI (hF [])
   obtain ⟨ad,cap,fV⟩:=afg jF
   have ha:a.tmps=[v].toArray:=by apply L4.1;rw [hv]
   rw [ha]
   refine (hN.run () trivial H (λb=>w.heap[b]?) w [v] D.hw (λ_ _ h=>h) ⟨v,[],rfl,⟨⟨ad,cap,kD.trans fV,cP _,.inl rfl⟩,λx=>(dv x).1⟩,rfl⟩).mono ?_
   rintro en w' ⟨u,H',rfl,-,-,hFw,-,hu,ho,ht,bV⟩
   obtain ⟨us,rfl,yE⟩:=hu
   obtain rfl:us=[]:=yE
   have D':=D.grown (ad8 hFw ho ht bV)
   refine ⟨.tuple #[],_,η,H,.ca [],rfl,?_,⟨rfl,D'.sv,by rw [hd];rfl,D'.h0,D'.hw,D'.fw,D'.hf,D'.sl,D'.dj,D'.dh,D'.os,D'.tape,D'.out⟩,?_⟩
   ·refine ⟨(),[],[],?_,?_,⟨trivial⟩⟩
    ·exact aX
    ·have eu:=wU.symm;exact bp
   ·simp [rel,aK]
  have hl:0 < l.length/\l.length < 4611686018427387904:=⟨yR,hl⟩
  obtain ⟨h1,h2⟩:=jF.pos hl.1
  rw [Lv] at oS
  subst oS
  rcases h2 with ⟨-,h2⟩|⟨g,cap,cur,hg,-,hb,tI,j2,eF,AV⟩
  ·have:=hl.1;change l.length=0 at h2;omega
  change η 0=.slice (some ⟨g,0,none⟩) l.length cap at hg
  change l.length<=cap at tI
  change cur.toList.take (l.length*1)=_ at AV
  rw [nk] at AV
  have eF:cur.size=cap:=by omega
  have aP:g < w.heap.size:=(fe.1 hb).1
  have oo:∀j,j < l.length->cur[j]?=some (Value.int .i64 l[j]!):=λj hj=>by
   have h:=congrArg (λz=>z[j]?) AV
   simp only [kE,hj,if_true,k7,DW] at h
   rw [h,dE hj,getElem!_pos l j hj];rfl
  have ha:a.tmps=#[.slice (some ⟨g,0,none⟩) l.length cap]:=by
   apply L4.1
   rw [hv,kD,hg]
  rw [ha]
  refine (hC g cap l w (λj hj=>?_) aP hl.2).mono ?_
  ·have hj:j < l.length:=by simpa using hj
   refine ⟨?_,?_⟩
   ·simp only [World.cell?,hb,ni,Option.isSome_none,ng,if_false]
    rw [oo j hj];simp
   ·simp [World.frozen?,hb]
  rintro en w' ⟨rfl,n,os,rfl⟩
  have hlen:=hF l
  have fR:w.grownBy (Sort.grow (Sort.putRow (Value.int .i64) (Sort.ahead w n) g 0 (F l).toArray) os) (some g):=⟨rfl,rfl,rfl,by simp [Sort.grow,Sort.putRow,Sort.mapBlock,Sort.ahead],λk hk bL=>by
   simp only [Sort.grow,Sort.putRow,Sort.mapBlock,Sort.ahead]
   rw [BK (by simpa using hk),DX]
   rw [if_neg (λe=>bL (by rw [e]))]⟩
  have b9:(Sort.grow (Sort.putRow (Value.int .i64) (Sort.ahead w n) g 0 (F l).toArray) os).heap[g]?=some (.cells (Sort.putCells (Value.int .i64) 0 (F l).toArray cur) e (0,0)):=by
   simp only [Sort.grow,Sort.putRow,Sort.mapBlock,Sort.ahead]
   rw [BK (by simpa using aP),DX,if_pos rfl,hb];rfl
  have D':=D.change (w':=Sort.grow (Sort.putRow (Value.int .i64) (Sort.ahead w n) g 0 (F l).toArray) os) (η':=η) (l:=0) (x:=.dyn e 1 bK (λ_=>F l)) none rfl (λ_ _=>rfl) (.inr ⟨rfl,rfl,rfl⟩) rfl
   (λo h=>by cases h) (some g) fR (λk hk=>.inr ⟨rfl,by
    cases hk;rw [hg]
    have:cap≠0:=by have:=hl.1;omega
    simp [bS,this]⟩) (λb hb=>.inr (.inr ⟨rfl,hb⟩)) (λ_=>by
    refine ⟨(F l).map (Value.int .i64),.inl ⟨⟨by simp,.inr ⟨g,cap,_,by rw [hg];exact congrArg (λk=>Value.slice _ k cap) hlen.symm,cP _,b9,by show (F l).length<=cap;omega,j2,by simp [Sort.putCells];omega,?_⟩⟩,λad m h=>by rw [hg] at h;cases h;have:=hl.1;omega⟩,Lv.2 rfl,λx hx=>rfl,λx=>dv x⟩
    apply nh
    intro j
    rw [kE]
    by_cases hj:j < (F l).length
    ·rw [if_pos (by simpa using hj),k7,dE hj,DW]
     simp only [Sort.putCells,Array.getElem?_mapIdx]
     rw [tk (show j < cur.size by omega)]
     simp [hj]
    ·rw [if_neg (by simpa using hj),l7 (by simp;omega)])
  refine ⟨.tuple #[],_,η,H,.ca [],rfl,?_,⟨rfl,D'.sv,by rw [hd];rfl,D'.h0,D'.hw,D'.fw,D'.hf,D'.sl,D'.dj,D'.dh,D'.os,D'.tape,D'.out⟩,?_⟩
  ·refine ⟨(),[],[],?_,?_,⟨trivial⟩⟩
   ·exact aX
   ·exact aX
  ·simp [rel,aK]⟩
def ql (l:List Int):List Int:=l.mergeSort λx y=>decide (x<=y)
theorem Ny:ma PP 53 (X1 3 ql) :=
 agf 3 ql (λl=>List.length_mergeSort l) ahU λblk cap zs w h1 h2 h3=>Any.slices_Sort_int Try.aff blk 0 cap zs w h1 h2 h3
theorem Mv (x y:Int):∀l:List Int,dX (l++[x,y])=if x=y then dX (l++[x]) else dX (l++[x])++[y]
 | []=>by
  show (if x=y then dX [y] else x :: dX [y])=_
  split
  ·rename_i e;rw [e];rfl
  ·rfl
 | [z]=>by
  show (if z=x then dX ([]++[x,y]) else z :: dX ([]++[x,y]))=if x=y then (if z=x then dX [x] else z :: dX [x]) else (if z=x then dX [x] else z :: dX [x])++[y]
  rw [Mv x y []]
  by_cases h:x=y<;>by_cases h2:z=x<;>simp [h,h2]
 | z :: w :: r=>by
  have ih:=Mv x y (w :: r)
  show (if z=w then dX (w :: r++[x,y]) else z :: dX (w :: r++[x,y]))=if x=y then (if z=w then dX (w :: r++[x]) else z :: dX (w :: r++[x])) else (if z=w then dX (w :: r++[x]) else z :: dX (w :: r++[x]))++[y]
  rw [ih]
  by_cases h:x=y<;>by_cases h2:z=w<;>simp [h,h2]
theorem Hy {l:List Int} {k:Nat} {x y:Int} (hx:l[k]?=some x) (hy:l[k+1]?=some y):dX (l.take (k+2))=if x=y then dX (l.take (k+1)) else dX (l.take (k+1))++[y]:=by
 rw [ju (i:=k+1),hy,ju (i:=k),hx]
 simp only [nX,tq,List.singleton_append]
 exact Mv x y _
structure pK (l:List Int) (k w j:Nat) (R:List Int):Prop where
 j1:1<=j
 w1:1<=w
 wk:w+1<=k+j
 kj:k+j<=l.length
 len:R.length=l.length
 at_:∀i,k+j<=i+1->R[i]?=l[i]?
 pre:R.take w=dX (l.take (k+j))
theorem pK.start {l:List Int} {k:Nat} {x:Int} (h:l.take k=dX (l.take k)) (hk:1<=k) (hy:l[k]?=some x) (hx:l[k - 1]?=some x):pK l k k 1 l:=by
 have aP:=(bh.1 hy).1
 refine ⟨fT _,hk,fT _,aP,rfl,λi _=>rfl,?_⟩
 have:=Hy (l:=l) (k:=k - 1) hx (by rw [show k - 1+1=k by omega];exact hy)
 rw [show k - 1+2=k+1 by omega,if_pos rfl,show k - 1+1=k by omega,<-h] at this
 exact this.symm
theorem pK.skip {l R:List Int} {k w j:Nat} {x:Int} (h:pK l k w j R) (hy:R[k+j]?=some x) (hx:R[k+j - 1]?=some x):pK l k w (j+1) R:=by
 have:=h.j1;have:=h.w1;have:=h.wk
 rw [h.at_ _ (by omega)] at hx hy
 have aP:=(bh.1 hy).1
 refine ⟨by omega,h.w1,by omega,by omega,h.len,λi hi=>h.at_ i (by omega),?_⟩
 have:=Hy (l:=l) (k:=k+j - 1) hx (by rw [show k+j - 1+1=k+j by omega];exact hy)
 rw [show k+j - 1+2=k+(j+1) by omega,if_pos rfl,show k+j - 1+1=k+j by omega] at this
 rw [h.pre,this]
theorem pK.add {l R:List Int} {k w j:Nat} {x y:Int} (h:pK l k w j R) (hy:R[k+j]?=some y) (hx:R[k+j - 1]?=some x) (bL:x≠y):pK l k (w+1) (j+1) (R.set w y):=by
 have:=h.j1;have:=h.w1;have:=h.wk
 rw [h.at_ _ (by omega)] at hx hy
 have aP:=(bh.1 hy).1
 have hl:=h.len
 refine ⟨by omega,by omega,by omega,by omega,by rw [pZ];exact h.len,λi hi=>?_,?_⟩
 ·rw [fU (by omega)];exact h.at_ i (by omega)
 have:=Hy (l:=l) (k:=k+j - 1) hx (by rw [show k+j - 1+1=k+j by omega];exact hy)
 rw [show k+j - 1+2=k+(j+1) by omega,if_neg bL,show k+j - 1+1=k+j by omega] at this
 rw [this,<-h.pre,ju,nW (by omega),nX,List.take_set_of_le (fT _)]
def E8 (l:List Int):Option (List Int)->List Int
 | none=>l
 | some r=>dX l++r
@[reducible] noncomputable def agh:oj where
 α:=List Int
 args _:=[.own 0]
 io l:=[.dyn 3 1 bK (λ_=>l)]
 pre l:=l.length<=1000000
 β:=Option (List Int)
 post l y:=y=none->dX l=l
 mv:=[]
 res l y:=match y with
  | none=>.own 0
  | some _=>.et 0 1 (λ_=>0) (λ_=>(dX l).length)
 lz l y:=[.dyn 3 1 bK (λ_=>E8 l y)]
noncomputable def ajl (n m:Nat):Ctx:=cT n m [] []
theorem Nz (n m:Nat):CB PP (ajl n m):=cW n m trivial trivial
theorem Um:ma PP 65 agh:=by
 refine rp (Nz 0 0) (fo Try.func65) (λa y=>rfl) (λa=>⟨rfl,rfl⟩) xI ?_
 intro l hx
 have hl:l.length<=1000000:=hx
 have j7:l.length < 2->dX l=l:=λh=>by
  match l,h with
  | [],_=>rfl
  | [x],_=>rfl
 have wP:dX (l.take 1)=l.take 1:=by
  match l with
  | []=>rfl
  | x :: r=>rfl
 refine ⟨?_⟩
 cbv
 refine ⟨λh=>?_,λh=>?_⟩
 ·have h':l.length < 2:=aJ
  have hp:(none:Option (List Int))=none->dX l=l:=λ_=>j7 h'
  cbv
  exact ⟨none,[],[],by exact aX,by exact aX,⟨hp⟩⟩
 have h2:2<=l.length:=aJ
 cbv
 refine Sat.eI (Nz 0 0) 1 3 [] (λi:Nat=>[(3,.i .i64 (λ_=>(i:Int)))]) (λ_=>[]) (λi=>1<=i/\i<=l.length/\dX (l.take i)=l.take i) (λi=>l.length - i) 1 (by exact bp) (by exact aX) ⟨fT _,by omega,wP⟩ ?_
 intro i hi
 obtain ⟨gH,bU,sT⟩:1<=i/\i<=l.length/\dX (l.take i)=l.take i:=hi
 have h0:=n0 i
 have h1:=eU (i:=i) (by omega)
 have yJ:IntKind.i64.wrap ((i:Int) - 1)=((i - 1:Nat):Int):=by rw [eP (by omega) (by omega)];omega
 cbv
 refine ⟨λh=>?_,λh=>?_⟩
 ·have yQ:i < l.length:=aJ
  refine (cy yQ).elim λy hy=>?_
  refine (cy (l:=l) (i:=i - 1) (by omega)).elim λx hx=>?_
  have wJ:0<=IntKind.i64.wrap ((i:Int) - 1)/\(IntKind.i64.wrap ((i:Int) - 1)).toNat < l.length:=by rw [yJ];exact ⟨n0 _,by rw [jC];omega⟩
  have oD:l[(IntKind.i64.wrap ((i:Int) - 1)).toNat]?=some x:=by rw [yJ];exact hx
  have jx:0<=(i:Int)/\(i:Int).toNat < l.length:=⟨h0,yQ⟩
  have Kl:x=y->pK l i i 1 l:=λe=>.start sT.symm gH hy (e ▸ hx)
  have Dd:x≠y->dX (l.take (i+1))=l.take (i+1):=λe=>by
   have:=Hy (l:=l) (k:=i - 1) hx (by rw [show i - 1+1=i by omega];exact hy)
   rw [show i - 1+2=i+1 by omega,if_neg e,show i - 1+1=i by omega,sT] at this
   rw [this,ju,hy];rfl
  have cD:l.length - (i+1) < l.length - i:=by omega
  have fV:(0:Int)<=(i:Int)/\(i:Int)<=(l.length:Int)/\(l.length:Int)<=(l.length:Int):=⟨h0,by omega,n7 _⟩
  cbv
  refine ⟨⟨jx⟩,y,⟨hy,rfl⟩,?_⟩
  cbv
  refine ⟨⟨wJ⟩,x,⟨oD,rfl⟩,?_⟩
  cbv
  refine ⟨λh=>?_,λh=>?_⟩
  ·have wS:y=x:=aJ
   have hJ:=Kl wS.symm
   cbv
   refine ⟨⟨fV⟩,?_⟩
   cbv
   refine Sat.eI (Nz 0 0) 1 3 [] (λg:Nat × Nat × List Int=>[(3,.i .i64 (λ_=>(g.1:Int))),(4,.et 0 1 (λ_=>i) (λ_=>l.length)),(5,.i .i64 (λ_=>(g.2.1:Int)))]) (λg=>[(0,.dyn 3 1 bK (λ_=>g.2.2))]) (λg=>pK l i g.1 g.2.1 g.2.2) (λg=>l.length - g.2.1) (i,1,l) (by ((try cbv)<;>(repeat' (first|with_reducible exact trivial|with_reducible refine And.intro ?_ ?_))<;>(try first|exact cj.refl _|exact cj.dyn rfl|exact cj.map rfl|exact cj.iter rfl rfl (.inl rfl)|exact cj.iter rfl rfl (.inr rfl)|refine cj.fix ?_|refine cj.dyn ?_)<;>((repeat' first|exact cM.nil|exact Le.refl _|refine cM.cons ?_ ?_|exact Le.ic rfl|exact Le.bc rfl|exact Le.i rfl|exact Le.b rfl|exact Le.sl rfl|exact Le.mp rfl|exact Le.fA rfl|exact Le.oq rfl|refine Le.cH rfl (λ_=>?_)|refine Le.dO rfl (λ_ _=>rfl) (λ_=>?_) ?_|refine Le.agg ?_|refine Le.ca ?_|refine Le.fn ?_ ?_|refine Le.dg ?_|exact trivial|refine And.intro ?_ ?_|refine λ_=>?_|exact Le.any _)))<;>first|exact .et (jC _) (jC _)|exact .ic rfl) (by exact aX) hJ ?_
   rintro ⟨w,j,R⟩ hJ
   have hJ:pK l i w j R:=hJ
   have yS:=n0 w
   have mi:=n0 j
   obtain ⟨pb,Z2,hwk,hkj,hlen,-,dU⟩:=id hJ
   have P1:=eU (i:=w) (by omega)
   have X2:=eU (i:=j) (by omega)
   have Gf:IntKind.i64.wrap ((j:Int) - 1)=((j - 1:Nat):Int):=by rw [eP (by omega) (by omega)];omega
   cbv
   refine ⟨λh=>?_,λh=>?_⟩
   ·have e8:j < l.length - i:=aJ
    have oF:i+j < R.length:=by have:=hlen;omega
    refine (cy oF).elim λy' qq=>?_
    refine (cy (l:=R) (i:=i+j - 1) (by omega)).elim λx' jy=>?_
    have ly:0<=(j:Int)/\(j:Int).toNat < l.length - i:=⟨mi,by rw [jC];exact e8⟩
    have jj:R[i+(j:Int).toNat]?=some y':=by rw [jC];exact qq
    have AI:0<=IntKind.i64.wrap ((j:Int) - 1)/\(IntKind.i64.wrap ((j:Int) - 1)).toNat < l.length - i:=by rw [Gf];exact ⟨n0 _,by rw [jC];omega⟩
    have lx:R[i+(IntKind.i64.wrap ((j:Int) - 1)).toNat]?=some x':=by rw [Gf,jC,show i+(j - 1)=i+j - 1 by omega];exact jy
    have wM:0<=(w:Int)/\(w:Int).toNat < R.length:=⟨yS,by rw [jC];omega⟩
    refine (cy (l:=R) (i:=(w:Int).toNat) wM.2).elim λu hu=>?_
    have cD:l.length - (j+1) < l.length - j:=by omega
    have De:x'=y'->pK l i w (j+1) R:=λe=>hJ.skip qq (e ▸ jy)
    have Gk:x'≠y'->pK l i (w+1) (j+1) (R.set (w:Int).toNat y'):=λe=>by rw [jC];exact hJ.add qq jy e
    obtain ⟨R',mS⟩:∃R',R.set (w:Int).toNat y'=R':=⟨_,rfl⟩
    rw [mS] at Gk
    cbv
    refine ⟨⟨ly⟩,y',⟨jj,rfl⟩,?_⟩
    cbv
    refine ⟨⟨AI⟩,x',⟨lx,rfl⟩,?_⟩
    cbv
    refine ⟨λh=>?_,λh=>?_⟩
    ·have bL:¬y'=x':=aJ
     have gn:pK l i (w+1) (j+1) R'/\l.length - (j+1) < l.length - j:=⟨Gk λe=>bL e.symm,cD⟩
     cbv
     refine ⟨⟨ly⟩,y',⟨jj,rfl⟩,?_⟩
     cbv
     refine ⟨⟨wM⟩,(u,y'),⟨hu,rfl,by exact fj⟩,?_⟩
     cbv
     exact ⟨(w+1,j+1,R'),by have bI:=P1;have iK:=X2;exact bp,by have eu:=mS;exact bp,⟨gn⟩⟩
    ·have he:y'=x':=aJ
     have gn:pK l i w (j+1) R/\l.length - (j+1) < l.length - j:=⟨De he.symm,cD⟩
     cbv
     exact ⟨(w,j+1,R),by have bI:=X2;exact bp,by exact aX,⟨gn⟩⟩
   ·have e8:l.length - i<=j:=aJ
    have oF:i+j=l.length:=by omega
    have hp:R.take w=dX l:=by rw [dU,oF,jt (fT _)]
    have ly:0<=(w:Int)/\(w:Int)<=(R.length:Int)/\(R.length:Int)<=(R.length:Int):=⟨yS,by omega,n7 _⟩
    have jK:(dX l).length=w:=by rw [<-hp,jv];omega
    have hq:(w:Int).toNat=(dX l).length:=by rw [jK];rfl
    obtain ⟨r,FX⟩:∃r,List.replicate ((R.length:Int).toNat - (w:Int).toNat) (0:Int)++R.drop ((w:Int).toNat+((R.length:Int).toNat - (w:Int).toNat))=r:=⟨_,rfl⟩
    have hr:R.take (w:Int).toNat++List.replicate ((R.length:Int).toNat - (w:Int).toNat) (0:Int)++R.drop ((w:Int).toNat+((R.length:Int).toNat - (w:Int).toNat))=dX l++r:=by rw [tq,FX,jC,hp]
    have hN:(0:Int)<=0/\(0:Int)<=(w:Int)/\(w:Int)<=((R.take (w:Int).toNat++List.replicate ((R.length:Int).toNat - (w:Int).toNat) (0:Int)++R.drop ((w:Int).toNat+((R.length:Int).toNat - (w:Int).toNat))).length:Int):=⟨n7 _,yS,by rw [hr,fS,jK];omega⟩
    cbv
    refine ⟨⟨ly⟩,?_⟩
    cbv
    refine ⟨0,⟨by exact fj⟩,?_⟩
    cbv
    refine ⟨⟨hN⟩,?_⟩
    cbv
    exact ⟨some r,[],[],by ((try cbv)<;>(repeat' (first|with_reducible exact trivial|with_reducible refine And.intro ?_ ?_))<;>(try first|exact cj.refl _|exact cj.dyn rfl|exact cj.map rfl|exact cj.iter rfl rfl (.inl rfl)|exact cj.iter rfl rfl (.inr rfl)|refine cj.fix ?_|refine cj.dyn ?_)<;>((repeat' first|exact cM.nil|exact Le.refl _|refine cM.cons ?_ ?_|exact Le.ic rfl|exact Le.bc rfl|exact Le.i rfl|exact Le.b rfl|exact Le.sl rfl|exact Le.mp rfl|exact Le.fA rfl|exact Le.oq rfl|refine Le.cH rfl (λ_=>?_)|refine Le.dO rfl (λ_ _=>rfl) (λ_=>?_) ?_|refine Le.agg ?_|refine Le.ca ?_|refine Le.fn ?_ ?_|refine Le.dg ?_|exact trivial|refine And.intro ?_ ?_|refine λ_=>?_|exact Le.any _)))<;>exact .et rfl hq,by have eu:=hr;exact bp,⟨λe=>by cases e⟩⟩
  ·have wS:¬y=x:=aJ
   have hn:=Dd λe=>wS e.symm
   have gn:(1<=i+1/\i+1<=l.length/\dX (l.take (i+1))=l.take (i+1))/\l.length - (i+1) < l.length - i:=⟨⟨L8 _ _,yQ,hn⟩,cD⟩
   cbv
   exact ⟨i+1,by have bI:=h1;exact bp,by exact aX,⟨gn⟩⟩
 ·have cf:l.length<=i:=aJ
  have hp:(none:Option (List Int))=none->dX l=l:=λ_=>by rw [jt cf] at sT;exact sT
  cbv
  exact ⟨none,[],[],by exact aX,by exact aX,⟨hp⟩⟩
structure ajm where
 a:List Int
 b:List Int
@[reducible] noncomputable def OJ:Vc.Spec where
 α:=ajm
 args x:=[.sl 1 bK (λ_=>x.a),.sl 1 bK (λ_=>x.b)]
 pre x:=x.a.length<=100000/\x.b.length<=100000
 res x:=.sl 1 bK (λ_=>jX x.a x.b)
 fr:=true
noncomputable def ajn (n m:Nat):Ctx:=cT n m [(64,Try.f64),(84,Try.f84),(53,Try.f53),(65,Try.f65)] [] [53,65]
theorem agi (n m:Nat):CB PP (ajn n m):=cW n m ⟨fo Try.func64,fo Try.func84,fo Try.func53,fo Try.func65,trivial⟩ trivial
theorem VS:dw (PP ()) 54 OJ:=by
 refine VJ (agi 0 0) (fo Try.func54) (λa=>⟨λx=>(dv x).1,λx=>(dv x).1,trivial⟩) (λa=>λx=>(dv x).1) ?_
 rintro ⟨a,b⟩ hx
 obtain ⟨ha,hb⟩:a.length<=100000/\b.length<=100000:=hx
 rcases zu (a.length+b.length) with hz|CX
 ·obtain rfl:a=[]:=gI (by omega)
  obtain rfl:b=[]:=gI (by omega)
  have w1:IntKind.i64.wrap (0+((([]:List Int).length:Nat):Int))=0:=by decide
  have f1:¬IntKind.i64.wrap (0+((([]:List Int).length:Nat):Int)) < 0:=by decide
  have f2:¬IntKind.i64.wrap (IntKind.i64.wrap (0+((([]:List Int).length:Nat):Int))+((([]:List Int).length:Nat):Int)) < 0:=by decide
  have f3:¬0 < IntKind.i64.wrap (IntKind.i64.wrap (IntKind.i64.wrap (0+((([]:List Int).length:Nat):Int))+((([]:List Int).length:Nat):Int)) - 0):=by decide
  have hu:([]:List Int)=jX [] []:=rfl
  have P3:ql []=[]:=by simp [ql]
  have FW:([]:List Int).length < 4611686018427387904:=by decide
  have hp9:([]:List Int).length<=1000000:=by decide
  have b1:(([]:List Int).length)*8<=140737488355328:=by decide
  have b2:([]:List Int).length<=9223372036854775807:=by decide
  have b3:(([]:List Int).length+([]:List Int).length)*8<=140737488355328:=by decide
  have b4:([]:List Int).length+([]:List Int).length<=9223372036854775807:=by decide
  refine ⟨?_⟩
  cbv
  refine ⟨λh=>?_,λ_=>?_⟩
  ·have h':IntKind.i64.wrap (0+((([]:List Int).length:Nat):Int)) < 0:=aJ
   cases f1 h'
  cbv
  refine ⟨λh=>?_,λ_=>?_⟩
  ·have h':IntKind.i64.wrap (IntKind.i64.wrap (0+((([]:List Int).length:Nat):Int))+((([]:List Int).length:Nat):Int)) < 0:=aJ
   cases f2 h'
  cbv
  refine ⟨λh=>?_,λ_=>?_⟩
  ·have h':IntKind.i64.wrap (IntKind.i64.wrap (0+((([]:List Int).length:Nat):Int))+((([]:List Int).length:Nat):Int)) < 0:=aJ
   cases f2 h'
  cbv
  refine ⟨λh=>?_,λ_=>?_⟩
  ·have h':0 < IntKind.i64.wrap (IntKind.i64.wrap (IntKind.i64.wrap (0+((([]:List Int).length:Nat):Int))+((([]:List Int).length:Nat):Int)) - 0):=aJ
   cases f3 h'
  cbv
  refine ⟨[],⟨by exact fj,b1,b2⟩,?_⟩
  cbv
  refine ⟨[],⟨by exact fj,b3,b4⟩,?_⟩
  cbv
  refine iP.ue Ny (λa y=>trivial) [] [2] rfl (by exact aY) (by exact aX) ⟨FW⟩ λy _=>?_
  cbv
  refine iP.io Um [] [2] rfl (by exact aY) (by have eu:=P3;exact bp) ⟨hp9⟩ λy hy=>?_
  rcases y with _|r
  ·cbv
   refine ⟨?_⟩
   cbv
   exact ⟨by have gM:=hu;exact wV,λx=>rfl⟩
  ·have hle:(dX []).length<=(E8 [] (some r)).length:=cP _
   have hr:((E8 [] (some r)).take (dX []).length).drop 0=jX [] []:=rfl
   cbv
   refine ⟨?_⟩
   exact ⟨rfl,hle,.sl hr,λx=>rfl⟩
 have w1:IntKind.i64.wrap (0+(a.length:Int))=a.length:=by rw [eP (by omega) (by omega)];omega
 have w2:IntKind.i64.wrap (IntKind.i64.wrap (0+(a.length:Int))+(b.length:Int))=(a.length:Int)+b.length:=by rw [w1,eP (by omega) (by omega)]
 have w3:IntKind.i64.wrap (IntKind.i64.wrap (IntKind.i64.wrap (0+(a.length:Int))+(b.length:Int)) - 0)=(a.length:Int)+b.length:=by rw [w2,eP (by omega) (by omega)];omega
 have f1:¬IntKind.i64.wrap (0+(a.length:Int)) < 0:=by omega
 have f2:¬IntKind.i64.wrap (IntKind.i64.wrap (0+(a.length:Int))+(b.length:Int)) < 0:=by omega
 have f3:¬IntKind.i64.wrap (IntKind.i64.wrap (IntKind.i64.wrap (0+(a.length:Int))+(b.length:Int)) - 0)<=0:=by omega
 obtain ⟨zs,iH,F3⟩:∃zs:List Int,zs.length=a.length+b.length/\∀y∈zs,y=0:=⟨List.replicate (a.length+b.length) 0,zr ..,λy hy=>(Bx.1 hy).2⟩
 have z1:(zs.length:Int)=IntKind.i64.wrap (IntKind.i64.wrap (IntKind.i64.wrap (0+(a.length:Int))+(b.length:Int)) - 0):=by rw [w3,iH];exact Int.natCast_add ..
 have z2:zs.length*8<=140737488355328:=by omega
 have z3:zs.length<=9223372036854775807:=by omega
 have b1:((0:Int).toNat+a.length)*8<=140737488355328:=by rw [show (0:Int).toNat=0 from rfl];omega
 have b2:(0:Int).toNat+a.length<=9223372036854775807:=by rw [show (0:Int).toNat=0 from rfl];omega
 have P4:zs.take (0:Int).toNat++a=a:=by rw [show (0:Int).toNat=0 from rfl];rfl
 have b3:((zs.take (0:Int).toNat++a).length+b.length)*8<=140737488355328:=by rw [P4];omega
 have b4:(zs.take (0:Int).toNat++a).length+b.length<=9223372036854775807:=by rw [P4];omega
 obtain ⟨l,hl⟩:∃l,zs.take (0:Int).toNat++a++b=l:=⟨_,rfl⟩
 have lx:l=a++b:=by rw [<-hl,P4]
 have kC:l.length=a.length+b.length:=by rw [lx,fS]
 obtain ⟨m,hm⟩:∃m,ql l=m:=⟨_,rfl⟩
 have AG:l.length < 4611686018427387904:=by omega
 have Ph:m.length<=1000000:=by rw [<-hm,ql,List.length_mergeSort];omega
 have jz:dX m=jX a b:=by
  refine acM ?_ (by rw [<-hm,<-lx];exact List.mergeSort_perm l _)
  rw [<-hm]
  have:=SL (le:=λx y:Int=>decide (x<=y)) (λa b c h1 h2=>by simp only [decide_eq_true_eq] at *;omega) (λa b=>by simp only [oO,decide_eq_true_eq];omega) l
  unfold ql
  simpa using this
 refine ⟨?_⟩
 cbv
 refine ⟨λh=>?_,λ_=>?_⟩
 ·have h':IntKind.i64.wrap (0+(a.length:Int)) < 0:=aJ
  cases f1 h'
 cbv
 refine ⟨λh=>?_,λ_=>?_⟩
 ·have h':IntKind.i64.wrap (IntKind.i64.wrap (0+(a.length:Int))+(b.length:Int)) < 0:=aJ
  cases f2 h'
 cbv
 refine ⟨λh=>?_,λ_=>?_⟩
 ·have h':IntKind.i64.wrap (IntKind.i64.wrap (0+(a.length:Int))+(b.length:Int)) < 0:=aJ
  cases f2 h'
 cbv
 refine ⟨λ_=>?_,λh=>?_⟩
 rotate_left
 ·have h':IntKind.i64.wrap (IntKind.i64.wrap (IntKind.i64.wrap (0+(a.length:Int))+(b.length:Int)) - 0)<=0:=aJ
  cases f3 h'
 cbv
 refine ⟨zs,⟨z1,λy hy=>by rw [F3 y hy];exact fj,z2,z3⟩,?_⟩
 cbv
 refine ⟨⟨n7 0,n7 0,n0 _⟩,a,⟨⟨rfl,cP _⟩,by exact fj,b1,b2⟩,?_⟩
 cbv
 refine ⟨b,⟨by exact fj,b3,b4⟩,?_⟩
 cbv
 refine iP.ue Ny (λa y=>trivial) l [3] rfl (by exact aY) (by have eu:=hl;exact bp) ⟨AG⟩ λy _=>?_
 cbv
 refine iP.io Um m [3] rfl (by exact aY) (by have eu:=hm;exact bp) ⟨Ph⟩ λy hy=>?_
 rcases y with _|r
 ·have he:dX m=m:=hy.out rfl
  have hr:=he.symm.trans jz
  cbv
  refine ⟨?_⟩
  cbv
  exact ⟨by have gM:=hr;exact wV,λx=>rfl⟩
 ·have hle:(dX m).length<=(E8 m (some r)).length:=by show _<=(dX m++r).length;rw [fS];omega
  have hr:((E8 m (some r)).take (dX m).length).drop 0=jX a b:=by show ((dX m++r).take (dX m).length).drop 0=_;rw [BB,List.drop_zero,jz]
  cbv
  refine ⟨?_⟩
  exact ⟨rfl,hle,.sl hr,λx=>rfl⟩
theorem ad9 {A:Type} {f:A->Bool} {l:List A} {i:Nat} {x:A} (h:l[i]?=some x):(l.take (i+1)).any f=((l.take i).any f||f x):=by
 rw [ju,h];simp
theorem Un {A:Type} {f:A->Bool} {l:List A} {i:Nat} {x:A} (h:l[i]?=some x):(l.take (i+1)).all f=((l.take i).all f&&f x):=by
 rw [ju,h];simp
theorem afh {a b:List Int} {i:Nat} {x:Int} (h:a[i]?=some x) (hf:b.contains x=false):dx a b=false :=
 Bool.eq_false_iff.2 λhs=>by
  have:=im.1 (show a.all (λx=>b.contains x)=true from hs) x (cN h)
  rw [hf] at this;cases this
@[reducible] noncomputable def OK:Vc.Spec where
 α:=L2
 args x:=[.sl 1 bK (λ_=>x.a),.sl 1 bK (λ_=>x.b)]
 pre x:=x.a.length<=1000000/\x.b.length<=1000000
 res x:=.b (λ_=>dx x.a x.b)
noncomputable def ajo (n m:Nat):Ctx:=cT n m [(28,Try.f28),(38,Try.f38),(86,Try.f86)] [(51,I5)] [] [38]
theorem VT (n m:Nat):CB PP (ajo n m):=cW n m ⟨fo Try.func28,fo Try.func38,fo Try.func86,trivial⟩ ⟨Nc,trivial⟩
theorem VU:dw (PP ()) 68 OK:=by
 refine fH (VT 0 0) (fo Try.func68) (λa=>⟨λx=>(dv x).1,λx=>(dv x).1,trivial⟩) (λa=>trivial) ?_
 rintro ⟨a,b⟩ hx
 obtain ⟨ha,hb⟩:a.length<=1000000/\b.length<=1000000:=hx
 have gF:b.length<=1000000000000:=by omega
 obtain ⟨f,hf⟩:∃f,f=λx=>b.contains x:=⟨_,rfl⟩
 have hu:dx a b=a.all f:=by rw [hf];rfl
 have hz:(a.take 0).all f=true:=rfl
 refine ⟨?_⟩
 cbv
 refine Sat.eI (VT 0 0) 1 8 [] (λi:Nat=>[(8,.i .i64 (λ_=>(i:Int)))]) (λi=>[])
  (λi=>i<=a.length/\(a.take i).all f=true) (λi=>a.length - i) 0 (by exact aX) (by exact aX) ⟨cP _,hz⟩ ?_
 rintro i ⟨hi,ht⟩
 have h0:=n0 i
 have h1:=eU (i:=i) (by omega)
 cbv
 refine ⟨λh=>?_,λh=>?_⟩
 ·have bU:i < a.length:=aJ
  have cD:a.length - (i+1) < a.length - i:=by omega
  refine (cy bU).elim λx hx=>?_
  cbv
  refine ⟨x,⟨h0,hx⟩,?_⟩
  cbv
  refine ⟨⟨b,x⟩,⟨by exact aY,gF⟩,?_⟩
  cbv
  refine ⟨λh=>?_,λh=>?_⟩
  ·have P5:b.contains x=false:=by have h':(!b.contains x)=true:=h.out;simpa using h'
   have e:(!jI 0 (i:Int))=dx a b:=by rw [afh hx P5];simp [jI]
   cbv
   exact ⟨by have nG:=e;exact bN⟩
  ·have P5:b.contains x=true:=by have h':(!b.contains x)=false:=h.out;simpa using h'
   have b9:i+1<=a.length/\(a.take (i+1)).all f=true:=⟨bU,by rw [Un hx,ht,hf];exact P5⟩
   cbv
   exact ⟨i+1,by have bI:=h1;exact bp,by exact aX,⟨⟨b9,cD⟩⟩⟩
 ·have cf:a.length<=i:=aJ
  have e:true=dx a b:=by rw [hu,<-ht,jt cf]
  cbv
  exact ⟨by have eW:=e;exact bN⟩
structure pL (x:List Int) (L:List (List Int)) (i j:Nat) (R:List (List Int)):Prop where
 ij:i<=j
 jl:j<=L.length
 len:R.length=L.length
 at_:∀k,j<=k->R[k]?=L[k]?
 pre:R.take i=(L.take j).filter (λy=>!dx x y)
theorem Lh {A:Type} {f:A->Bool} {l:List A} {j:Nat} {y:A} (h:l[j]?=some y):(l.take (j+1)).filter f=(l.take j).filter f++(if f y then [y] else []):=by
 rw [ju,h,LW,nX]
 congr 1
 by_cases hf:f y=true
 ·simp [hf]
 ·simp [hf]
theorem pL.skip {x:List Int} {L R:List (List Int)} {i j:Nat} {y:List Int} (h:pL x L i j R) (hy:L[j]?=some y) (hs:dx x y=true):pL x L i (j+1) R:=by
 have aP:=(bh.1 hy).1
 refine ⟨by have:=h.ij;omega,aP,h.len,λk hk=>h.at_ k (by omega),?_⟩
 rw [Lh hy,h.pre,hs];simp
theorem pL.Ct {x:List Int} {L R:List (List Int)} {i j:Nat} {y:List Int} (h:pL x L i j R) (hy:L[j]?=some y) (hs:dx x y=false):pL x L (i+1) (j+1) (R.set i y):=by
 have aP:=(bh.1 hy).1
 have oF:=h.ij
 have hl:=h.len
 refine ⟨by omega,aP,by rw [pZ];exact h.len,λk hk=>?_,?_⟩
 ·rw [fU (by omega)];exact h.at_ k (by omega)
 rw [Lh hy,<-h.pre,hs,ju,nW (by omega),nX,List.take_set_of_le (fT _)];simp
theorem pL.start {x:List Int} {L:List (List Int)} {i:Nat} {y:List Int} (h:∀j,j < i->∀y,L[j]?=some y->dx x y=false) (hy:L[i]?=some y) (hs:dx x y=true):pL x L i (i+1) L:=by
 have aP:=(bh.1 hy).1
 refine ⟨Nat.le_succ _,aP,rfl,λ_ _=>rfl,?_⟩
 rw [Lh hy,hs]
 simp only [Bool.not_true,ng,if_false,zm]
 rw [List.filter_eq_self.2]
 intro z hz
 obtain ⟨k,hk⟩:=pW hz
 rw [kE] at hk
 split at hk
 ·rw [h k (by assumption) z hk];rfl
 ·cases hk
theorem aea {L:List (List Int)} {x y:List Int} {i:Nat} (hy:L[i]?=some y) (hs:dx y x=true):lh L x=L:=by
 unfold lh
 rw [if_pos (HG.2 ⟨y,cN hy,hs⟩)]
theorem aeb {L:List (List Int)} {x:List Int} (h:(L.take L.length).any (λy=>dx y x)=false):lh L x=L.filter (λy=>!dx x y)++[x]:=by
 unfold lh
 rw [L5] at h
 rw [if_neg (by rw [h];simp)]
structure FE where
 l:Option (List (List Int))
 x:List Int
def FE.dO (a:FE):List (List Int):=a.l.getD []
def FG (a:FE):Prop:=a.x.length<=1000000/\a.dO.length<=1000000000/\∀y∈a.dO,y.length<=1000000
def nt (L:List (List Int)) (x:List Int):List (List Int):=L.filter (λy=>!dx x y)
def I6 (L:List (List Int)) (x:List Int):Option (List (List Int))->List (List Int)
 | none=>L
 | some r=>nt L x++r
@[reducible] noncomputable def DlS:oj where
 α:=FE
 args a:=match a.l with
  | none=>[.cH,.fn (.func 70) [] [.ptr 0 0]]
  | some _=>[.own 0,.fn (.func 70) [] [.ptr 1 0]]
 io a:=match a.l with
  | none=>[.fix 32 [.sl 1 bK (λ_=>a.x)]]
  | some L=>[.dyn 32 1 fP (λ_=>L),.fix 32 [.sl 1 bK (λ_=>a.x)]]
 pre a:=FG a
 β:=Option (List (List Int))
 post a y:=y=none->nt a.dO a.x=a.dO
 mv:=[]
 res a y:=match a.l with
  | none=>.cH
  | some L=>match y with
   | none=>.own 0
   | some _=>.et 0 1 (λ_=>0) (λ_=>(nt L a.x).length)
 lz a y:=match a.l with
  | none=>[.fix 32 [.sl 1 bK (λ_=>a.x)]]
  | some L=>[.dyn 32 1 fP (λ_=>I6 L a.x y),.fix 32 [.sl 1 bK (λ_=>a.x)]]
theorem aec {L:List (List Int)} {x:List Int} (k:∀j,j < L.length->∀y,L[j]?=some y->dx x y=false):nt L x=L:=by
 unfold nt
 rw [List.filter_eq_self]
 intro z hz
 obtain ⟨j,hj⟩:=pW hz
 rw [k j (bh.1 hj).1 z hj];rfl
noncomputable def cDl (n m:Nat):Ctx:=cT n m [(85,Try.f85),(70,Try.f70)] [(68,OK)] [] [85]
theorem I7 (n m:Nat):CB PP (cDl n m):=cW n m ⟨fo Try.func85,fo Try.func70,trivial⟩ ⟨VU,trivial⟩
theorem W4:ma PP 69 DlS:=by
 refine rp (I7 1 0) (fo Try.func69) (λa y=>by rcases a with ⟨_|_,_⟩<;>rfl) (λa=>by rcases a with ⟨_|_,_⟩<;>exact ⟨rfl,rfl⟩) xI ?_
 rintro ⟨_|L,x⟩ hx
 ·have hm:(none:Option (List (List Int)))=none->nt [] x=[]:=λ_=>rfl
  refine ⟨?_⟩
  cbv
  refine Sat.eI (I7 1 0) 1 8 [] (λ_:Unit=>[(8,.ic .i64 0)]) (λ_=>[]) (λ_=>True) (λ_=>0) () (by exact aX) (by exact aX) trivial ?_
  intro _ _
  cbv
  exact ⟨none,[],[],by exact aX,by exact aX,⟨hm⟩⟩
 ·obtain ⟨wJ,hL,Km⟩:x.length<=1000000/\L.length<=1000000000/\∀y∈L,y.length<=1000000:=hx
  refine ⟨?_⟩
  cbv
  refine Sat.eI (I7 1 0) 2 8 [] (λi:Nat=>[(8,.i .i64 (λ_=>(i:Int)))]) (λ_=>[]) (λi=>i<=L.length/\∀j,j < i->∀y,L[j]?=some y->dx x y=false) (λi=>L.length - i) 0 (by exact aX) (by exact aX) ⟨cP _,λj h=>absurd h (tu _)⟩ ?_
  intro i hi
  obtain ⟨hi,ha⟩:i<=L.length/\∀j,j < i->∀y,L[j]?=some y->dx x y=false:=hi
  have h0:=n0 i
  have h1:=eU (i:=i) (by omega)
  cbv
  refine ⟨λh=>?_,λh=>?_⟩
  rotate_left
  ·have cf:L.length<=i:=aJ
   have hm:(none:Option (List (List Int)))=none->nt L x=L:=λ_=>aec λj hj=>ha j (by omega)
   cbv
   exact ⟨none,[],[],by exact aX,by exact aX,⟨hm⟩⟩
  have bU:i < L.length:=aJ
  have cD:L.length - (i+1) < L.length - i:=by omega
  refine (cy bU).elim λy hy=>?_
  have ly:0<=(i:Int)/\(i:Int).toNat < L.length:=⟨h0,bU⟩
  have dU:x.length<=1000000/\y.length<=1000000:=⟨wJ,Km y (cN hy)⟩
  cbv
  refine ⟨⟨ly⟩,y,⟨hy,rfl⟩,?_⟩
  cbv
  refine ⟨⟨x,y⟩,⟨by exact aY,dU⟩,?_⟩
  cbv
  refine ⟨λh=>?_,λh=>?_⟩
  rotate_left
  ·have hs:dx x y=false:=h.out
   have gn:(i+1<=L.length/\∀j,j < i+1->∀y,L[j]?=some y->dx x y=false)/\L.length - (i+1) < L.length - i:=⟨⟨bU,λj hj z hz=>by
    by_cases ry:j=i
    ·subst ry;rw [hy] at hz;cases hz;exact hs
    ·exact ha j (by omega) z hz⟩,cD⟩
   cbv
   exact ⟨i+1,by have bI:=h1;exact bp,by exact aX,⟨gn⟩⟩
  have hs:dx x y=true:=h.out
  have hJ:pL x L i (i+1) L:=.start ha hy hs
  have bL:¬(i:Int)=-1:=by omega
  clear h
  cbv
  refine ⟨λh=>?_,λ_=>?_⟩
  ·have h':(i:Int)=-1:=aJ
   cases bL h'
  cbv
  refine Sat.eI (I7 1 0) 2 5 [] (λg:Nat × Nat × List (List Int)=>[(5,.i .i64 (λ_=>(g.1:Int))),(6,.i .i64 (λ_=>(g.2.1:Int)))]) (λg=>[(0,.dyn 32 1 fP (λ_=>g.2.2))]) (λg=>pL x L g.1 g.2.1 g.2.2) (λg=>L.length - g.2.1) (i,i+1,L) (by have bI:=h1;exact bp) (by exact aX) hJ ?_
  rintro ⟨w,j,R⟩ hJ
  have hJ:pL x L w j R:=hJ
  have yS:=n0 w
  have mi:=n0 j
  obtain ⟨hwj,hjL,hlen,mb,dU⟩:=id hJ
  have P1:=eU (i:=w) (by omega)
  have Kl:=eU (i:=j) (by omega)
  cbv
  refine ⟨λh=>?_,λh=>?_⟩
  ·have e8:j < R.length:=aJ
   refine (cy e8).elim λy' qq=>?_
   have P6:L[j]?=some y':=(mb j (fT _)).symm.trans qq
   have ly:0<=(j:Int)/\(j:Int).toNat < R.length:=⟨mi,by rw [jC];exact e8⟩
   have wM:0<=(w:Int)/\(w:Int).toNat < R.length:=⟨yS,by rw [jC];omega⟩
   refine (cy (l:=R) (i:=(w:Int).toNat) wM.2).elim λu hu=>?_
   have ahV:x.length<=1000000/\y'.length<=1000000:=⟨wJ,Km y' (cN P6)⟩
   have cD:L.length - (j+1) < L.length - j:=by omega
   have De:dx x y'=true->pL x L w (j+1) R:=λe=>hJ.skip P6 e
   have Gk:dx x y'=false->pL x L (w+1) (j+1) (R.set (w:Int).toNat y'):=λe=>by rw [jC];exact hJ.Ct P6 e
   obtain ⟨R',mS⟩:∃R',R.set (w:Int).toNat y'=R':=⟨_,rfl⟩
   rw [mS] at Gk
   cbv
   refine ⟨⟨ly⟩,y',⟨qq,rfl⟩,?_⟩
   cbv
   refine ⟨⟨x,y'⟩,⟨by exact aY,ahV⟩,?_⟩
   cbv
   refine ⟨λh=>?_,λh=>?_⟩
   ·have hs:dx x y'=false:=by have h':(!dx x y')=true:=h.out;simpa using h'
    have gn:pL x L (w+1) (j+1) R'/\L.length - (j+1) < L.length - j:=⟨Gk hs,cD⟩
    cbv
    refine ⟨⟨wM⟩,(u,y'),⟨hu,rfl,by exact fj⟩,?_⟩
    cbv
    exact ⟨(w+1,j+1,R'),by have bI:=P1;have iK:=Kl;exact bp,by have eu:=mS;exact bp,⟨gn⟩⟩
   ·have hs:dx x y'=true:=by have h':(!dx x y')=false:=h.out;simpa using h'
    have gn:pL x L w (j+1) R/\L.length - (j+1) < L.length - j:=⟨De hs,cD⟩
    cbv
    exact ⟨(w,j+1,R),by have bI:=Kl;exact bp,by exact aX,⟨gn⟩⟩
  ·have e8:R.length<=j:=aJ
   have hp:R.take w=nt L x:=by rw [dU,jt (by omega)];rfl
   have ly:0<=(w:Int)/\(w:Int)<=(R.length:Int)/\(R.length:Int)<=(R.length:Int):=⟨yS,by omega,n7 _⟩
   have jK:(nt L x).length=w:=by rw [<-hp,jv];omega
   have hq:(w:Int).toNat=(nt L x).length:=by rw [jK];rfl
   obtain ⟨r,FX⟩:∃r,List.replicate ((R.length:Int).toNat - (w:Int).toNat) ([]:List Int)++R.drop ((w:Int).toNat+((R.length:Int).toNat - (w:Int).toNat))=r:=⟨_,rfl⟩
   have hr:R.take (w:Int).toNat++List.replicate ((R.length:Int).toNat - (w:Int).toNat) ([]:List Int)++R.drop ((w:Int).toNat+((R.length:Int).toNat - (w:Int).toNat))=nt L x++r:=by rw [tq,FX,jC,hp]
   have hN:(0:Int)<=0/\(0:Int)<=(w:Int)/\(w:Int)<=((R.take (w:Int).toNat++List.replicate ((R.length:Int).toNat - (w:Int).toNat) ([]:List Int)++R.drop ((w:Int).toNat+((R.length:Int).toNat - (w:Int).toNat))).length:Int):=⟨n7 _,yS,by rw [hr,fS,jK];omega⟩
   cbv
   refine ⟨⟨ly⟩,?_⟩
   cbv
   refine ⟨[],⟨by exact fj⟩,?_⟩
   cbv
   refine ⟨⟨hN⟩,?_⟩
   cbv
   exact ⟨some r,[],[],by ((try cbv)<;>(repeat' (first|with_reducible exact trivial|with_reducible refine And.intro ?_ ?_))<;>(try first|exact cj.refl _|exact cj.dyn rfl|exact cj.map rfl|exact cj.iter rfl rfl (.inl rfl)|exact cj.iter rfl rfl (.inr rfl)|refine cj.fix ?_|refine cj.dyn ?_)<;>((repeat' first|exact cM.nil|exact Le.refl _|refine cM.cons ?_ ?_|exact Le.ic rfl|exact Le.bc rfl|exact Le.i rfl|exact Le.b rfl|exact Le.sl rfl|exact Le.mp rfl|exact Le.fA rfl|exact Le.oq rfl|refine Le.cH rfl (λ_=>?_)|refine Le.dO rfl (λ_ _=>rfl) (λ_=>?_) ?_|refine Le.agg ?_|refine Le.ca ?_|refine Le.fn ?_ ?_|refine Le.dg ?_|exact trivial|refine And.intro ?_ ?_|refine λ_=>?_|exact Le.any _)))<;>exact .et rfl hq,by have eu:=hr;exact bp,⟨λe=>by cases e⟩⟩
end Go.Proofs.Pk
