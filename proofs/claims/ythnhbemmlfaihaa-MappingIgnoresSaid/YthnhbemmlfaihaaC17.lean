import Derived.Test.YthnhbemmlfaihaaC13
import Derived.Test.YthnhbemmlfaihaaC14
import Derived.Test.YthnhbemmlfaihaaC15
import Derived.Test.YthnhbemmlfaihaaC16
set_option linter.unusedVariables false
set_option linter.unusedSimpArgs false
set_option maxRecDepth 10000
set_option maxHeartbeats 64000000
namespace Go.Proofs.Pk
open Go Go.Vc
@[reducible] noncomputable def Zp:Vc.Spec where
 α:=Int
 args x:=[.i .u64 (λ_=>x)]
 pre x:=x=0
 res _:=.i .i64 (λ_=>0)
noncomputable def cLz (n m:Nat):Ctx:=cP n m [] []
theorem ahf (n m:Nat):CB PP (cLz n m):=cR n m trivial trivial
theorem ahg:dm (PP ()) 83 Zp:=by
 refine fl (ahf 0 0) (fo Try.func83) (λa=>⟨trivial,trivial⟩) (λa=>trivial) ?_
 intro x hx
 obtain rfl:x=0:=hx
 refine ⟨?_⟩
 cbv
 refine ⟨λh=>?_,λ_=>?_⟩
 ·have h':(4294967296:Int)<=0:=aL
  cases (show False from absurd h' (by decide))
 cbv
 refine ⟨λh=>?_,λ_=>?_⟩
 ·have h':(65536:Int)<=0:=aL
  cases (show False from absurd h' (by decide))
 cbv
 refine ⟨λh=>?_,λ_=>?_⟩
 ·have h':(256:Int)<=0:=aL
  cases (show False from absurd h' (by decide))
 have e1:0<=IntKind.u8.wrap 0/\(IntKind.u8.wrap 0).toNat < 256:=by decide
 have e2:(IntKind.u8.wrap 0).toNat=0:=by decide
 have e3:IntKind.i64.wrap (0+IntKind.i64.wrap 0)=0:=by decide
 cbv
 exact ⟨⟨e1⟩,⟨by exact bJ⟩⟩
@[reducible] noncomputable def Zq:Vc.Spec where
 α:=Unit
 args _:=[.sl 1 bH (λ_=>[])]
 pre _:=True
 res _:=.bX []
noncomputable def cSn (n m:Nat):Ctx:=cP n m [(63,Try.f63),(62,Try.f62),(73,Try.f73)] [(83,Zp)] [] [62,73]
theorem Nt (n m:Nat):CB PP (cSn n m):=cR n m ⟨fo Try.func63,fo Try.func62,fo Try.func73,trivial⟩ ⟨ahg,trivial⟩
theorem ahh:dm (PP ()) 53 Zq:=by
 refine fl (Nt 0 0) (fo Try.func53) (λa=>⟨λx=>(dq x).1,trivial⟩) (λa=>trivial) ?_
 intro x hx
 have u0:IntKind.u64.wrap ((([]:List Int).length:Nat):Int)=0:=by decide
 have w0:IntKind.i64.wrap (((([]:List Int).length:Nat):Int) - 0)=0:=by decide
 have f0:¬(12:Int) < IntKind.i64.wrap (((([]:List Int).length:Nat):Int) - 0):=by rw [w0];decide
 have f1:¬IntKind.i64.wrap (0+1) < ((([]:List Int).length:Nat):Int):=by decide
 refine ⟨?_⟩
 cbv
 refine ⟨0,⟨by have bE:=u0;exact bJ,rfl⟩,?_⟩
 cbv
 refine Sat.eE (Nt 0 0) 0 10 [] (λ_:Unit=>[]) (λ_=>[]) (λ_=>True) (λ_=>0) () (by exact aW) (by exact aW) trivial ?_
 intro _ _
 cbv
 refine ⟨λ_=>?_,λh=>?_⟩
 rotate_left
 ·have h':(12:Int) < IntKind.i64.wrap (((([]:List Int).length:Nat):Int) - 0):=aL
  cases f0 h'
 cbv
 refine Sat.eE (Nt 0 0) 0 8 [] (λ_:Unit=>[]) (λ_=>[]) (λ_=>True) (λ_=>0) () (by exact aW) (by exact aW) trivial ?_
 intro _ _
 cbv
 refine ⟨λh=>?_,λ_=>?_⟩
 ·have h':IntKind.i64.wrap (0+1) < ((([]:List Int).length:Nat):Int):=aL
  cases f1 h'
 cbv
 exact ⟨by exact a7⟩
theorem K1 {H:aV}:∀{l:List Int} {vs:List Value},cW H (l.flatMap bH) vs↔vs=l.map (Value.int .i64)
 | [],vs=>by simp [aK]
 | x :: r,vs=>by
  have ih:=@K1 H r
  rw [oZ,show bH x++r.flatMap bH=SV.i .i64 (λ_=>x) :: r.flatMap bH from rfl]
  simp only [aK,rel,ih]
  constructor
  ·rintro ⟨v,lE,rfl,rfl,rfl⟩;rfl
  ·rintro rfl;exact ⟨_,_,rfl,rfl,rfl⟩
@[reducible] noncomputable def Xp (e:TypeId) (F:List Int->List Int):nU where
 α:=List Int
 args _:=[.own 0]
 io l:=[.dyn e 1 bH (λ_=>l)]
 pre l:=l.length < 4611686018427387904
 β:=Unit
 post _ _:=True
 mv:=[]
 res _ _:=.bX []
 kZ l _:=[.dyn e 1 bH (λ_=>F l)]
theorem aeH {w:World} {e:TypeId} {sz:Nat} {v:Value} {vals:List Value} (h:rL w e sz v 0 vals):∃ad cap,v=.slice ad 0 cap:=by
 rcases h with ⟨h,-⟩|⟨⟨ad,h⟩,-⟩
 ·rcases h.2 with ⟨h,-⟩|⟨g,cap,cur,h,-⟩
  ·exact ⟨_,_,h⟩
  ·exact ⟨_,_,h⟩
 ·exact ⟨_,_,h⟩
theorem adv {w w':World} (hF:∀(b:Nat) (o:Obj),w.heap[b]?=some o->w'.heap[b]?=some o) (ho:w'.os=w.os) (ht:w'.tape=w.tape) (hu:w'.output=w.output):w.grownBy w' none:=by
 refine ⟨ho,ht,hu,?_,λb hb _=>?_⟩
 ·rcases yZ w.heap.size with e|e
  ·omega
  ·have:=(fa.1 (hF (w.heap.size - 1) _ (sX (show w.heap.size - 1 < w.heap.size by omega)))).1;omega
 ·rw [sX hb];exact hF b _ (sX hb)
theorem afH {P:Unit->Program} {fid:FuncId} (e:TypeId) (F:List Int->List Int) (hF:∀l,(F l).length=l.length) (hN:dm (P ()) fid Zq)
  (hC:∀(blk cap:Nat) (zs:List Int) (w:World),Sort.Holds (Value.int .i64) w blk 0 zs.toArray->blk < w.heap.size->zs.length < 4611686018427387904 ->
   Calls (P ()) fid #[.slice (some ⟨blk,0,none⟩) zs.length cap] w λen w'=>en=.returned (.tuple #[])/\∃n os,w'=Sort.grow (Sort.putRow (Value.int .i64) (Sort.ahead w n) blk 0 (F zs).toArray) os) :
  lW P fid (Xp e F) where
 len _ _:=rfl
 old l j z h _:=by
  cases j with
  | zero=>cases h;rfl
  | succ j=>simp at h
 nu l y j h:=by
  cases j with
  | zero=>simp at h
  | succ j=>simp at h
 mv:=⟨xe,λ_ _ h=>by cases h⟩
 run l hl:=⟨λf η H a w hS hd D=>by
  obtain ⟨v,lE,hv,iX,qa⟩:=D.t
  obtain rfl:lE=[]:=qa
  have ko:v=η 0:=by simp only [rel,aP,DK,Slot.live] at iX;exact iX.1
  obtain ⟨vals,jy,oE,-,-⟩:=D.sl 0 _ rfl
  rcases yZ l.length with hz|yj
  ·obtain rfl:l=[]:=gL hz
   have wz:F []=[]:=gL (hF [])
   obtain ⟨ad,cap,gv⟩:=aeH jy
   have ha:a.tmps=[v].toArray:=by apply Ls.1;rw [hv]
   rw [ha]
   refine (hN.run () trivial H (λb=>w.heap[b]?) w [v] D.hw (λ_ _ h=>h) ⟨v,[],rfl,⟨⟨ad,cap,ko.trans gv,cK _,.inl rfl⟩,λx=>(dq x).1⟩,rfl⟩).mono ?_
   rintro en w' ⟨u,H',rfl,-,-,hFw,-,hu,ho,ht,cX⟩
   obtain ⟨us,rfl,OI⟩:=hu
   obtain rfl:us=[]:=OI
   have D':=D.grown (adv hFw ho ht cX)
   refine ⟨.tuple #[],_,η,H,.bX [],rfl,?_,⟨rfl,D'.sv,by rw [hd];rfl,D'.h0,D'.hw,D'.fw,D'.hf,D'.sl,D'.dj,D'.dh,D'.os,D'.tape,D'.out⟩,?_⟩
   ·refine ⟨(),[],[],?_,?_,⟨trivial⟩⟩
    ·exact aW
    ·have eG:=wz.symm;exact a8
   ·simp [rel,aK]
  have hl:0 < l.length/\l.length < 4611686018427387904:=⟨yj,hl⟩
  obtain ⟨h1,h2⟩:=jy.pos hl.1
  rw [K1] at oE
  subst oE
  rcases h2 with ⟨-,h2⟩|⟨g,cap,cur,hg,-,hb,tq,jS,eQ,Au⟩
  ·have:=hl.1;change l.length=0 at h2;omega
  change η 0=.slice (some ⟨g,0,none⟩) l.length cap at hg
  change l.length<=cap at tq
  change cur.toList.take (l.length*1)=_ at Au
  rw [o5] at Au
  have eQ:cur.size=cap:=by omega
  have aQ:g < w.heap.size:=(fa.1 hb).1
  have nW:∀j,j < l.length->cur[j]?=some (Value.int .i64 l[j]!):=λj hj=>by
   have h:=congrArg (λz=>z[j]?) Au
   simp only [kP,hj,if_true,k8,Dm] at h
   rw [h,eB hj,getElem!_pos l j hj];rfl
  have ha:a.tmps=#[.slice (some ⟨g,0,none⟩) l.length cap]:=by
   apply Ls.1
   rw [hv,ko,hg]
  rw [ha]
  refine (hC g cap l w (λj hj=>?_) aQ hl.2).mono ?_
  ·have hj:j < l.length:=by simpa using hj
   refine ⟨?_,?_⟩
   ·simp only [World.cell?,hb,mU,Option.isSome_none,mT,if_false]
    rw [nW j hj];simp
   ·simp [World.frozen?,hb]
  rintro en w' ⟨rfl,n,os,rfl⟩
  have hlen:=hF l
  have fN:w.grownBy (Sort.grow (Sort.putRow (Value.int .i64) (Sort.ahead w n) g 0 (F l).toArray) os) (some g):=⟨rfl,rfl,rfl,by simp [Sort.grow,Sort.putRow,Sort.mapBlock,Sort.ahead],λk hk bM=>by
   simp only [Sort.grow,Sort.putRow,Sort.mapBlock,Sort.ahead]
   rw [Be (by simpa using hk),Dp]
   rw [if_neg (λe=>bM (by rw [e]))]⟩
  have bW:(Sort.grow (Sort.putRow (Value.int .i64) (Sort.ahead w n) g 0 (F l).toArray) os).heap[g]?=some (.cells (Sort.putCells (Value.int .i64) 0 (F l).toArray cur) e (0,0)):=by
   simp only [Sort.grow,Sort.putRow,Sort.mapBlock,Sort.ahead]
   rw [Be (by simpa using aQ),Dp,if_pos rfl,hb];rfl
  have D':=D.change (w':=Sort.grow (Sort.putRow (Value.int .i64) (Sort.ahead w n) g 0 (F l).toArray) os) (η':=η) (l:=0) (x:=.dyn e 1 bH (λ_=>F l)) none rfl (λ_ _=>rfl) (.inr ⟨rfl,rfl,rfl⟩) rfl
   (λo h=>by cases h) (some g) fN (λk hk=>.inr ⟨rfl,by
    cases hk;rw [hg]
    have:cap≠0:=by have:=hl.1;omega
    simp [bS,this]⟩) (λb hb=>.inr (.inr ⟨rfl,hb⟩)) (λ_=>by
    refine ⟨(F l).map (Value.int .i64),.inl ⟨⟨by simp,.inr ⟨g,cap,_,by rw [hg];exact congrArg (λk=>Value.slice _ k cap) hlen.symm,cK _,bW,by show (F l).length<=cap;omega,jS,by simp [Sort.putCells];omega,?_⟩⟩,λad m h=>by rw [hg] at h;cases h;have:=hl.1;omega⟩,K1.2 rfl,λx hx=>rfl,λx=>dq x⟩
    apply o0
    intro j
    rw [kP]
    by_cases hj:j < (F l).length
    ·rw [if_pos (by simpa using hj),k8,eB hj,Dm]
     simp only [Sort.putCells,Array.getElem?_mapIdx]
     rw [sX (show j < cur.size by omega)]
     simp [hj]
    ·rw [if_neg (by simpa using hj),ox (by simp;omega)])
  refine ⟨.tuple #[],_,η,H,.bX [],rfl,?_,⟨rfl,D'.sv,by rw [hd];rfl,D'.h0,D'.hw,D'.fw,D'.hf,D'.sl,D'.dj,D'.dh,D'.os,D'.tape,D'.out⟩,?_⟩
  ·refine ⟨(),[],[],?_,?_,⟨trivial⟩⟩
   ·exact aW
   ·exact aW
  ·simp [rel,aK]⟩
def p8 (l:List Int):List Int:=l.mergeSort λx y=>decide (x<=y)
theorem MY:lW PP 53 (Xp 3 p8) :=
 afH 3 p8 (λl=>List.length_mergeSort l) ahh λblk cap zs w h1 h2 h3=>Any.slices_Sort_int Try.aeG blk 0 cap zs w h1 h2 h3
theorem LZ (x y:Int):∀l:List Int,dO (l++[x,y])=if x=y then dO (l++[x]) else dO (l++[x])++[y]
 | []=>by
  show (if x=y then dO [y] else x :: dO [y])=_
  split
  ·rename_i e;rw [e];rfl
  ·rfl
 | [z]=>by
  show (if z=x then dO ([]++[x,y]) else z :: dO ([]++[x,y]))=if x=y then (if z=x then dO [x] else z :: dO [x]) else (if z=x then dO [x] else z :: dO [x])++[y]
  rw [LZ x y []]
  by_cases h:x=y<;>by_cases h2:z=x<;>simp [h,h2]
 | z :: w :: r=>by
  have ih:=LZ x y (w :: r)
  show (if z=w then dO (w :: r++[x,y]) else z :: dO (w :: r++[x,y]))=if x=y then (if z=w then dO (w :: r++[x]) else z :: dO (w :: r++[x])) else (if z=w then dO (w :: r++[x]) else z :: dO (w :: r++[x]))++[y]
  rw [ih]
  by_cases h:x=y<;>by_cases h2:z=w<;>simp [h,h2]
theorem GY {l:List Int} {k:Nat} {x y:Int} (hx:l[k]?=some x) (hy:l[k+1]?=some y):dO (l.take (k+2))=if x=y then dO (l.take (k+1)) else dO (l.take (k+1))++[y]:=by
 rw [jm (i:=k+1),hy,jm (i:=k),hx]
 simp only [nJ,vx,List.singleton_append]
 exact LZ x y _
structure py (l:List Int) (k w j:Nat) (R:List Int):Prop where
 j1:1<=j
 w1:1<=w
 wk:w+1<=k+j
 kj:k+j<=l.length
 len:R.length=l.length
 at_:∀i,k+j<=i+1->R[i]?=l[i]?
 pre:R.take w=dO (l.take (k+j))
theorem py.start {l:List Int} {k:Nat} {x:Int} (h:l.take k=dO (l.take k)) (hk:1<=k) (hy:l[k]?=some x) (hx:l[k - 1]?=some x):py l k k 1 l:=by
 have aQ:=(bq.1 hy).1
 refine ⟨fP _,hk,fP _,aQ,rfl,λi _=>rfl,?_⟩
 have:=GY (l:=l) (k:=k - 1) hx (by rw [show k - 1+1=k by omega];exact hy)
 rw [show k - 1+2=k+1 by omega,if_pos rfl,show k - 1+1=k by omega,<-h] at this
 exact this.symm
theorem py.skip {l R:List Int} {k w j:Nat} {x:Int} (h:py l k w j R) (hy:R[k+j]?=some x) (hx:R[k+j - 1]?=some x):py l k w (j+1) R:=by
 have:=h.j1;have:=h.w1;have:=h.wk
 rw [h.at_ _ (by omega)] at hx hy
 have aQ:=(bq.1 hy).1
 refine ⟨by omega,h.w1,by omega,by omega,h.len,λi hi=>h.at_ i (by omega),?_⟩
 have:=GY (l:=l) (k:=k+j - 1) hx (by rw [show k+j - 1+1=k+j by omega];exact hy)
 rw [show k+j - 1+2=k+(j+1) by omega,if_pos rfl,show k+j - 1+1=k+j by omega] at this
 rw [h.pre,this]
theorem py.add {l R:List Int} {k w j:Nat} {x y:Int} (h:py l k w j R) (hy:R[k+j]?=some y) (hx:R[k+j - 1]?=some x) (bM:x≠y):py l k (w+1) (j+1) (R.set w y):=by
 have:=h.j1;have:=h.w1;have:=h.wk
 rw [h.at_ _ (by omega)] at hx hy
 have aQ:=(bq.1 hy).1
 have hl:=h.len
 refine ⟨by omega,by omega,by omega,by omega,by rw [y4];exact h.len,λi hi=>?_,?_⟩
 ·rw [fQ (by omega)];exact h.at_ i (by omega)
 have:=GY (l:=l) (k:=k+j - 1) hx (by rw [show k+j - 1+1=k+j by omega];exact hy)
 rw [show k+j - 1+2=k+(j+1) by omega,if_neg bM,show k+j - 1+1=k+j by omega] at this
 rw [this,<-h.pre,jm,nH (by omega),nJ,List.take_set_of_le (fP _)]
def Et (l:List Int):Option (List Int)->List Int
 | none=>l
 | some r=>dO l++r
@[reducible] noncomputable def afI:nU where
 α:=List Int
 args _:=[.own 0]
 io l:=[.dyn 3 1 bH (λ_=>l)]
 pre l:=l.length<=1000000
 β:=Option (List Int)
 post l y:=y=none->dO l=l
 mv:=[]
 res l y:=match y with
  | none=>.own 0
  | some _=>.eh 0 1 (λ_=>0) (λ_=>(dO l).length)
 kZ l y:=[.dyn 3 1 bH (λ_=>Et l y)]
noncomputable def aiF (n m:Nat):Ctx:=cP n m [] []
theorem MZ (n m:Nat):CB PP (aiF n m):=cR n m trivial trivial
theorem TP:lW PP 65 afI:=by
 refine qV (MZ 0 0) (fo Try.func65) (λa y=>rfl) (λa=>⟨rfl,rfl⟩) xe ?_
 intro l hx
 have hl:l.length<=1000000:=hx
 have jZ:l.length < 2->dO l=l:=λh=>by
  match l,h with
  | [],_=>rfl
  | [x],_=>rfl
 have wu:dO (l.take 1)=l.take 1:=by
  match l with
  | []=>rfl
  | x :: r=>rfl
 refine ⟨?_⟩
 cbv
 refine ⟨λh=>?_,λh=>?_⟩
 ·have h':l.length < 2:=aL
  have hp:(none:Option (List Int))=none->dO l=l:=λ_=>jZ h'
  cbv
  exact ⟨none,[],[],by exact aW,by exact aW,⟨hp⟩⟩
 have h2:2<=l.length:=aL
 cbv
 refine Sat.eE (MZ 0 0) 1 3 [] (λi:Nat=>[(3,.i .i64 (λ_=>(i:Int)))]) (λ_=>[]) (λi=>1<=i/\i<=l.length/\dO (l.take i)=l.take i) (λi=>l.length - i) 1 (by exact a8) (by exact aW) ⟨fP _,by omega,wu⟩ ?_
 intro i hi
 obtain ⟨gB,bP,sG⟩:1<=i/\i<=l.length/\dO (l.take i)=l.take i:=hi
 have h0:=n0 i
 have h1:=eO (i:=i) (by omega)
 have su:IntKind.i64.wrap ((i:Int) - 1)=((i - 1:Nat):Int):=by rw [ei (by omega) (by omega)];omega
 cbv
 refine ⟨λh=>?_,λh=>?_⟩
 ·have yg:i < l.length:=aL
  refine (cC yg).elim λy hy=>?_
  refine (cC (l:=l) (i:=i - 1) (by omega)).elim λx hx=>?_
  have wh:0<=IntKind.i64.wrap ((i:Int) - 1)/\(IntKind.i64.wrap ((i:Int) - 1)).toNat < l.length:=by rw [su];exact ⟨n0 _,by rw [jw];omega⟩
  have om:l[(IntKind.i64.wrap ((i:Int) - 1)).toNat]?=some x:=by rw [su];exact hx
  have jV:0<=(i:Int)/\(i:Int).toNat < l.length:=⟨h0,yg⟩
  have JM:x=y->py l i i 1 l:=λe=>.start sG.symm gB hy (e ▸ hx)
  have wB:x≠y->dO (l.take (i+1))=l.take (i+1):=λe=>by
   have:=GY (l:=l) (k:=i - 1) hx (by rw [show i - 1+1=i by omega];exact hy)
   rw [show i - 1+2=i+1 by omega,if_neg e,show i - 1+1=i by omega,sG] at this
   rw [this,jm,hy];rfl
  have cy:l.length - (i+1) < l.length - i:=by omega
  have gv:(0:Int)<=(i:Int)/\(i:Int)<=(l.length:Int)/\(l.length:Int)<=(l.length:Int):=⟨h0,by omega,nL _⟩
  cbv
  refine ⟨⟨jV⟩,y,⟨hy,rfl⟩,?_⟩
  cbv
  refine ⟨⟨wh⟩,x,⟨om,rfl⟩,?_⟩
  cbv
  refine ⟨λh=>?_,λh=>?_⟩
  ·have wy:y=x:=aL
   have hJ:=JM wy.symm
   cbv
   refine ⟨⟨gv⟩,?_⟩
   cbv
   refine Sat.eE (MZ 0 0) 1 3 [] (λg:Nat × Nat × List Int=>[(3,.i .i64 (λ_=>(g.1:Int))),(4,.eh 0 1 (λ_=>i) (λ_=>l.length)),(5,.i .i64 (λ_=>(g.2.1:Int)))]) (λg=>[(0,.dyn 3 1 bH (λ_=>g.2.2))]) (λg=>py l i g.1 g.2.1 g.2.2) (λg=>l.length - g.2.1) (i,1,l) (by ((try cbv)<;>(repeat' (first|with_reducible exact trivial|with_reducible refine And.intro ?_ ?_))<;>(try first|exact cm.refl _|exact cm.dyn rfl|exact cm.map rfl|exact cm.iter rfl rfl (.inl rfl)|exact cm.iter rfl rfl (.inr rfl)|refine cm.fix ?_|refine cm.dyn ?_)<;>((repeat' first|exact cH.nil|exact Le.refl _|refine cH.cons ?_ ?_|exact Le.ic rfl|exact Le.bc rfl|exact Le.i rfl|exact Le.b rfl|exact Le.sl rfl|exact Le.mp rfl|exact Le.fu rfl|exact Le.nX rfl|refine Le.cD rfl (λ_=>?_)|refine Le.dF rfl (λ_ _=>rfl) (λ_=>?_) ?_|refine Le.agg ?_|refine Le.bX ?_|refine Le.fn ?_ ?_|refine Le.cZ ?_|exact trivial|refine And.intro ?_ ?_|refine λ_=>?_|exact Le.any _)))<;>first|exact .eh (jw _) (jw _)|exact .ic rfl) (by exact aW) hJ ?_
   rintro ⟨w,j,R⟩ hJ
   have hJ:py l i w j R:=hJ
   have yk:=n0 w
   have l7:=n0 j
   obtain ⟨oS,Zr,hwk,hkj,hlen,-,dL⟩:=id hJ
   have Px:=eO (i:=w) (by omega)
   have Xq:=eO (i:=j) (by omega)
   have FD:IntKind.i64.wrap ((j:Int) - 1)=((j - 1:Nat):Int):=by rw [ei (by omega) (by omega)];omega
   cbv
   refine ⟨λh=>?_,λh=>?_⟩
   ·have e7:j < l.length - i:=aL
    have oq:i+j < R.length:=by have:=hlen;omega
    refine (cC oq).elim λy' qd=>?_
    refine (cC (l:=R) (i:=i+j - 1) (by omega)).elim λx' lF=>?_
    have kX:0<=(j:Int)/\(j:Int).toNat < l.length - i:=⟨l7,by rw [jw];exact e7⟩
    have jc:R[i+(j:Int).toNat]?=some y':=by rw [jw];exact qd
    have Ag:0<=IntKind.i64.wrap ((j:Int) - 1)/\(IntKind.i64.wrap ((j:Int) - 1)).toNat < l.length - i:=by rw [FD];exact ⟨n0 _,by rw [jw];omega⟩
    have kW:R[i+(IntKind.i64.wrap ((j:Int) - 1)).toNat]?=some x':=by rw [FD,jw,show i+(j - 1)=i+j - 1 by omega];exact lF
    have wm:0<=(w:Int)/\(w:Int).toNat < R.length:=⟨yk,by rw [jw];omega⟩
    refine (cC (l:=R) (i:=(w:Int).toNat) wm.2).elim λu hu=>?_
    have cy:l.length - (j+1) < l.length - j:=by omega
    have CH:x'=y'->py l i w (j+1) R:=λe=>hJ.skip qd (e ▸ lF)
    have FH:x'≠y'->py l i (w+1) (j+1) (R.set (w:Int).toNat y'):=λe=>by rw [jw];exact hJ.add qd lF e
    obtain ⟨R',oP⟩:∃R',R.set (w:Int).toNat y'=R':=⟨_,rfl⟩
    rw [oP] at FH
    cbv
    refine ⟨⟨kX⟩,y',⟨jc,rfl⟩,?_⟩
    cbv
    refine ⟨⟨Ag⟩,x',⟨kW,rfl⟩,?_⟩
    cbv
    refine ⟨λh=>?_,λh=>?_⟩
    ·have bM:¬y'=x':=aL
     have gl:py l i (w+1) (j+1) R'/\l.length - (j+1) < l.length - j:=⟨FH λe=>bM e.symm,cy⟩
     cbv
     refine ⟨⟨kX⟩,y',⟨jc,rfl⟩,?_⟩
     cbv
     refine ⟨⟨wm⟩,(u,y'),⟨hu,rfl,by exact gw⟩,?_⟩
     cbv
     exact ⟨(w+1,j+1,R'),by have bE:=Px;have fO:=Xq;exact a8,by have eG:=oP;exact a8,⟨gl⟩⟩
    ·have he:y'=x':=aL
     have gl:py l i w (j+1) R/\l.length - (j+1) < l.length - j:=⟨CH he.symm,cy⟩
     cbv
     exact ⟨(w,j+1,R),by have bE:=Xq;exact a8,by exact aW,⟨gl⟩⟩
   ·have e7:l.length - i<=j:=aL
    have oq:i+j=l.length:=by omega
    have hp:R.take w=dO l:=by rw [dL,oq,jj (fP _)]
    have kX:0<=(w:Int)/\(w:Int)<=(R.length:Int)/\(R.length:Int)<=(R.length:Int):=⟨yk,by omega,nL _⟩
    have jX:(dO l).length=w:=by rw [<-hp,lQ];omega
    have hq:(w:Int).toNat=(dO l).length:=by rw [jX];rfl
    obtain ⟨r,Py⟩:∃r,List.replicate ((R.length:Int).toNat - (w:Int).toNat) (0:Int)++R.drop ((w:Int).toNat+((R.length:Int).toNat - (w:Int).toNat))=r:=⟨_,rfl⟩
    have hr:R.take (w:Int).toNat++List.replicate ((R.length:Int).toNat - (w:Int).toNat) (0:Int)++R.drop ((w:Int).toNat+((R.length:Int).toNat - (w:Int).toNat))=dO l++r:=by rw [vx,Py,jw,hp]
    have hN:(0:Int)<=0/\(0:Int)<=(w:Int)/\(w:Int)<=((R.take (w:Int).toNat++List.replicate ((R.length:Int).toNat - (w:Int).toNat) (0:Int)++R.drop ((w:Int).toNat+((R.length:Int).toNat - (w:Int).toNat))).length:Int):=⟨nL _,yk,by rw [hr,fJ,jX];omega⟩
    cbv
    refine ⟨⟨kX⟩,?_⟩
    cbv
    refine ⟨0,⟨by exact gw⟩,?_⟩
    cbv
    refine ⟨⟨hN⟩,?_⟩
    cbv
    exact ⟨some r,[],[],by ((try cbv)<;>(repeat' (first|with_reducible exact trivial|with_reducible refine And.intro ?_ ?_))<;>(try first|exact cm.refl _|exact cm.dyn rfl|exact cm.map rfl|exact cm.iter rfl rfl (.inl rfl)|exact cm.iter rfl rfl (.inr rfl)|refine cm.fix ?_|refine cm.dyn ?_)<;>((repeat' first|exact cH.nil|exact Le.refl _|refine cH.cons ?_ ?_|exact Le.ic rfl|exact Le.bc rfl|exact Le.i rfl|exact Le.b rfl|exact Le.sl rfl|exact Le.mp rfl|exact Le.fu rfl|exact Le.nX rfl|refine Le.cD rfl (λ_=>?_)|refine Le.dF rfl (λ_ _=>rfl) (λ_=>?_) ?_|refine Le.agg ?_|refine Le.bX ?_|refine Le.fn ?_ ?_|refine Le.cZ ?_|exact trivial|refine And.intro ?_ ?_|refine λ_=>?_|exact Le.any _)))<;>exact .eh rfl hq,by have eG:=hr;exact a8,⟨λe=>by cases e⟩⟩
  ·have wy:¬y=x:=aL
   have hn:=wB λe=>wy e.symm
   have gl:(1<=i+1/\i+1<=l.length/\dO (l.take (i+1))=l.take (i+1))/\l.length - (i+1) < l.length - i:=⟨⟨Lv _ _,yg,hn⟩,cy⟩
   cbv
   exact ⟨i+1,by have bE:=h1;exact a8,by exact aW,⟨gl⟩⟩
 ·have b9:l.length<=i:=aL
  have hp:(none:Option (List Int))=none->dO l=l:=λ_=>by rw [jj b9] at sG;exact sG
  cbv
  exact ⟨none,[],[],by exact aW,by exact aW,⟨hp⟩⟩
structure aiG where
 a:List Int
 b:List Int
@[reducible] noncomputable def Oa:Vc.Spec where
 α:=aiG
 args x:=[.sl 1 bH (λ_=>x.a),.sl 1 bH (λ_=>x.b)]
 pre x:=x.a.length<=100000/\x.b.length<=100000
 res x:=.sl 1 bH (λ_=>jP x.a x.b)
 fr:=true
noncomputable def aiH (n m:Nat):Ctx:=cP n m [(64,Try.f64),(84,Try.f84),(53,Try.f53),(65,Try.f65)] [] [53,65]
theorem afJ (n m:Nat):CB PP (aiH n m):=cR n m ⟨fo Try.func64,fo Try.func84,fo Try.func53,fo Try.func65,trivial⟩ trivial
theorem Vm:dm (PP ()) 54 Oa:=by
 refine Va (afJ 0 0) (fo Try.func54) (λa=>⟨λx=>(dq x).1,λx=>(dq x).1,trivial⟩) (λa=>λx=>(dq x).1) ?_
 rintro ⟨a,b⟩ hx
 obtain ⟨ha,hb⟩:a.length<=100000/\b.length<=100000:=hx
 rcases yZ (a.length+b.length) with hz|Cq
 ·obtain rfl:a=[]:=gL (by omega)
  obtain rfl:b=[]:=gL (by omega)
  have w1:IntKind.i64.wrap (0+((([]:List Int).length:Nat):Int))=0:=by decide
  have f1:¬IntKind.i64.wrap (0+((([]:List Int).length:Nat):Int)) < 0:=by decide
  have f2:¬IntKind.i64.wrap (IntKind.i64.wrap (0+((([]:List Int).length:Nat):Int))+((([]:List Int).length:Nat):Int)) < 0:=by decide
  have f3:¬0 < IntKind.i64.wrap (IntKind.i64.wrap (IntKind.i64.wrap (0+((([]:List Int).length:Nat):Int))+((([]:List Int).length:Nat):Int)) - 0):=by decide
  have hu:([]:List Int)=jP [] []:=rfl
  have Pz:p8 []=[]:=by simp [p8]
  have Ff:([]:List Int).length < 4611686018427387904:=by decide
  have hp9:([]:List Int).length<=1000000:=by decide
  have b1:(([]:List Int).length)*8<=140737488355328:=by decide
  have b2:([]:List Int).length<=9223372036854775807:=by decide
  have b3:(([]:List Int).length+([]:List Int).length)*8<=140737488355328:=by decide
  have b4:([]:List Int).length+([]:List Int).length<=9223372036854775807:=by decide
  refine ⟨?_⟩
  cbv
  refine ⟨λh=>?_,λ_=>?_⟩
  ·have h':IntKind.i64.wrap (0+((([]:List Int).length:Nat):Int)) < 0:=aL
   cases f1 h'
  cbv
  refine ⟨λh=>?_,λ_=>?_⟩
  ·have h':IntKind.i64.wrap (IntKind.i64.wrap (0+((([]:List Int).length:Nat):Int))+((([]:List Int).length:Nat):Int)) < 0:=aL
   cases f2 h'
  cbv
  refine ⟨λh=>?_,λ_=>?_⟩
  ·have h':IntKind.i64.wrap (IntKind.i64.wrap (0+((([]:List Int).length:Nat):Int))+((([]:List Int).length:Nat):Int)) < 0:=aL
   cases f2 h'
  cbv
  refine ⟨λh=>?_,λ_=>?_⟩
  ·have h':0 < IntKind.i64.wrap (IntKind.i64.wrap (IntKind.i64.wrap (0+((([]:List Int).length:Nat):Int))+((([]:List Int).length:Nat):Int)) - 0):=aL
   cases f3 h'
  cbv
  refine ⟨[],⟨by exact gw,b1,b2⟩,?_⟩
  cbv
  refine ⟨[],⟨by exact gw,b3,b4⟩,?_⟩
  cbv
  refine iW.tM MY (λa y=>trivial) [] [2] rfl (by exact a7) (by exact aW) ⟨Ff⟩ λy _=>?_
  cbv
  refine iW.io TP [] [2] rfl (by exact a7) (by have eG:=Pz;exact a8) ⟨hp9⟩ λy hy=>?_
  rcases y with _|r
  ·cbv
   refine ⟨?_⟩
   cbv
   exact ⟨by have iz:=hu;exact wA,λx=>rfl⟩
  ·have hle:(dO []).length<=(Et [] (some r)).length:=cK _
   have hr:((Et [] (some r)).take (dO []).length).drop 0=jP [] []:=rfl
   cbv
   refine ⟨?_⟩
   exact ⟨rfl,hle,.sl hr,λx=>rfl⟩
 have w1:IntKind.i64.wrap (0+(a.length:Int))=a.length:=by rw [ei (by omega) (by omega)];omega
 have w2:IntKind.i64.wrap (IntKind.i64.wrap (0+(a.length:Int))+(b.length:Int))=(a.length:Int)+b.length:=by rw [w1,ei (by omega) (by omega)]
 have w3:IntKind.i64.wrap (IntKind.i64.wrap (IntKind.i64.wrap (0+(a.length:Int))+(b.length:Int)) - 0)=(a.length:Int)+b.length:=by rw [w2,ei (by omega) (by omega)];omega
 have f1:¬IntKind.i64.wrap (0+(a.length:Int)) < 0:=by omega
 have f2:¬IntKind.i64.wrap (IntKind.i64.wrap (0+(a.length:Int))+(b.length:Int)) < 0:=by omega
 have f3:¬IntKind.i64.wrap (IntKind.i64.wrap (IntKind.i64.wrap (0+(a.length:Int))+(b.length:Int)) - 0)<=0:=by omega
 obtain ⟨zs,iG,Fm⟩:∃zs:List Int,zs.length=a.length+b.length/\∀y∈zs,y=0:=⟨List.replicate (a.length+b.length) 0,yX ..,λy hy=>(Bk.1 hy).2⟩
 have z1:(zs.length:Int)=IntKind.i64.wrap (IntKind.i64.wrap (IntKind.i64.wrap (0+(a.length:Int))+(b.length:Int)) - 0):=by rw [w3,iG];exact Int.natCast_add ..
 have z2:zs.length*8<=140737488355328:=by omega
 have z3:zs.length<=9223372036854775807:=by omega
 have b1:((0:Int).toNat+a.length)*8<=140737488355328:=by rw [show (0:Int).toNat=0 from rfl];omega
 have b2:(0:Int).toNat+a.length<=9223372036854775807:=by rw [show (0:Int).toNat=0 from rfl];omega
 have PA:zs.take (0:Int).toNat++a=a:=by rw [show (0:Int).toNat=0 from rfl];rfl
 have b3:((zs.take (0:Int).toNat++a).length+b.length)*8<=140737488355328:=by rw [PA];omega
 have b4:(zs.take (0:Int).toNat++a).length+b.length<=9223372036854775807:=by rw [PA];omega
 obtain ⟨l,hl⟩:∃l,zs.take (0:Int).toNat++a++b=l:=⟨_,rfl⟩
 have kW:l=a++b:=by rw [<-hl,PA]
 have nm:l.length=a.length+b.length:=by rw [kW,fJ]
 obtain ⟨m,hm⟩:∃m,p8 l=m:=⟨_,rfl⟩
 have Ad:l.length < 4611686018427387904:=by omega
 have OK:m.length<=1000000:=by rw [<-hm,p8,List.length_mergeSort];omega
 have jr:dO m=jP a b:=by
  refine ab8 ?_ (by rw [<-hm,<-kW];exact List.mergeSort_perm l _)
  rw [<-hm]
  have:=Sd (le:=λx y:Int=>decide (x<=y)) (λa b c h1 h2=>by simp only [decide_eq_true_eq] at *;omega) (λa b=>by simp only [oz,decide_eq_true_eq];omega) l
  unfold p8
  simpa using this
 refine ⟨?_⟩
 cbv
 refine ⟨λh=>?_,λ_=>?_⟩
 ·have h':IntKind.i64.wrap (0+(a.length:Int)) < 0:=aL
  cases f1 h'
 cbv
 refine ⟨λh=>?_,λ_=>?_⟩
 ·have h':IntKind.i64.wrap (IntKind.i64.wrap (0+(a.length:Int))+(b.length:Int)) < 0:=aL
  cases f2 h'
 cbv
 refine ⟨λh=>?_,λ_=>?_⟩
 ·have h':IntKind.i64.wrap (IntKind.i64.wrap (0+(a.length:Int))+(b.length:Int)) < 0:=aL
  cases f2 h'
 cbv
 refine ⟨λ_=>?_,λh=>?_⟩
 rotate_left
 ·have h':IntKind.i64.wrap (IntKind.i64.wrap (IntKind.i64.wrap (0+(a.length:Int))+(b.length:Int)) - 0)<=0:=aL
  cases f3 h'
 cbv
 refine ⟨zs,⟨z1,λy hy=>by rw [Fm y hy];exact gw,z2,z3⟩,?_⟩
 cbv
 refine ⟨⟨nL 0,nL 0,n0 _⟩,a,⟨⟨rfl,cK _⟩,by exact gw,b1,b2⟩,?_⟩
 cbv
 refine ⟨b,⟨by exact gw,b3,b4⟩,?_⟩
 cbv
 refine iW.tM MY (λa y=>trivial) l [3] rfl (by exact a7) (by have eG:=hl;exact a8) ⟨Ad⟩ λy _=>?_
 cbv
 refine iW.io TP m [3] rfl (by exact a7) (by have eG:=hm;exact a8) ⟨OK⟩ λy hy=>?_
 rcases y with _|r
 ·have he:dO m=m:=hy.out rfl
  have hr:=he.symm.trans jr
  cbv
  refine ⟨?_⟩
  cbv
  exact ⟨by have iz:=hr;exact wA,λx=>rfl⟩
 ·have hle:(dO m).length<=(Et m (some r)).length:=by show _<=(dO m++r).length;rw [fJ];omega
  have hr:((Et m (some r)).take (dO m).length).drop 0=jP a b:=by show ((dO m++r).take (dO m).length).drop 0=_;rw [A5,List.drop_zero,jr]
  cbv
  refine ⟨?_⟩
  exact ⟨rfl,hle,.sl hr,λx=>rfl⟩
theorem adw {A:Type} {f:A->Bool} {l:List A} {i:Nat} {x:A} (h:l[i]?=some x):(l.take (i+1)).any f=((l.take i).any f||f x):=by
 rw [jm,h];simp
theorem TQ {A:Type} {f:A->Bool} {l:List A} {i:Nat} {x:A} (h:l[i]?=some x):(l.take (i+1)).all f=((l.take i).all f&&f x):=by
 rw [jm,h];simp
theorem aeI {a b:List Int} {i:Nat} {x:Int} (h:a[i]?=some x) (hf:b.contains x=false):dt a b=false :=
 Bool.eq_false_iff.2 λhs=>by
  have:=gK.1 (show a.all (λx=>b.contains x)=true from hs) x (cL h)
  rw [hf] at this;cases this
@[reducible] noncomputable def Ob:Vc.Spec where
 α:=L2
 args x:=[.sl 1 bH (λ_=>x.a),.sl 1 bH (λ_=>x.b)]
 pre x:=x.a.length<=1000000/\x.b.length<=1000000
 res x:=.b (λ_=>dt x.a x.b)
noncomputable def aiI (n m:Nat):Ctx:=cP n m [(28,Try.f28),(38,Try.f38),(86,Try.f86)] [(51,Iu)] [] [38]
theorem Vn (n m:Nat):CB PP (aiI n m):=cR n m ⟨fo Try.func28,fo Try.func38,fo Try.func86,trivial⟩ ⟨MF,trivial⟩
theorem Vo:dm (PP ()) 68 Ob:=by
 refine fl (Vn 0 0) (fo Try.func68) (λa=>⟨λx=>(dq x).1,λx=>(dq x).1,trivial⟩) (λa=>trivial) ?_
 rintro ⟨a,b⟩ hx
 obtain ⟨ha,hb⟩:a.length<=1000000/\b.length<=1000000:=hx
 have gz:b.length<=1000000000000:=by omega
 obtain ⟨f,hf⟩:∃f,f=λx=>b.contains x:=⟨_,rfl⟩
 have hu:dt a b=a.all f:=by rw [hf];rfl
 have hz:(a.take 0).all f=true:=rfl
 refine ⟨?_⟩
 cbv
 refine Sat.eE (Vn 0 0) 1 8 [] (λi:Nat=>[(8,.i .i64 (λ_=>(i:Int)))]) (λi=>[])
  (λi=>i<=a.length/\(a.take i).all f=true) (λi=>a.length - i) 0 (by exact aW) (by exact aW) ⟨cK _,hz⟩ ?_
 rintro i ⟨hi,ht⟩
 have h0:=n0 i
 have h1:=eO (i:=i) (by omega)
 cbv
 refine ⟨λh=>?_,λh=>?_⟩
 ·have bP:i < a.length:=aL
  have cy:a.length - (i+1) < a.length - i:=by omega
  refine (cC bP).elim λx hx=>?_
  cbv
  refine ⟨x,⟨h0,hx⟩,?_⟩
  cbv
  refine ⟨⟨b,x⟩,⟨by exact a7,gz⟩,?_⟩
  cbv
  refine ⟨λh=>?_,λh=>?_⟩
  ·have PB:b.contains x=false:=by have h':(!b.contains x)=true:=h.out;simpa using h'
   have e:(!jB 0 (i:Int))=dt a b:=by rw [aeI hx PB];simp [jB]
   cbv
   exact ⟨by have nq:=e;exact bJ⟩
  ·have PB:b.contains x=true:=by have h':(!b.contains x)=false:=h.out;simpa using h'
   have bW:i+1<=a.length/\(a.take (i+1)).all f=true:=⟨bP,by rw [TQ hx,ht,hf];exact PB⟩
   cbv
   exact ⟨i+1,by have bE:=h1;exact a8,by exact aW,⟨⟨bW,cy⟩⟩⟩
 ·have b9:a.length<=i:=aL
  have e:true=dt a b:=by rw [hu,<-ht,jj b9]
  cbv
  exact ⟨by have eR:=e;exact bJ⟩
structure pz (x:List Int) (L:List (List Int)) (i j:Nat) (R:List (List Int)):Prop where
 ij:i<=j
 jl:j<=L.length
 len:R.length=L.length
 at_:∀k,j<=k->R[k]?=L[k]?
 pre:R.take i=(L.take j).filter (λy=>!dt x y)
theorem KN {A:Type} {f:A->Bool} {l:List A} {j:Nat} {y:A} (h:l[j]?=some y):(l.take (j+1)).filter f=(l.take j).filter f++(if f y then [y] else []):=by
 rw [jm,h,Lm,nJ]
 congr 1
 by_cases hf:f y=true
 ·simp [hf]
 ·simp [hf]
theorem pz.skip {x:List Int} {L R:List (List Int)} {i j:Nat} {y:List Int} (h:pz x L i j R) (hy:L[j]?=some y) (hs:dt x y=true):pz x L i (j+1) R:=by
 have aQ:=(bq.1 hy).1
 refine ⟨by have:=h.ij;omega,aQ,h.len,λk hk=>h.at_ k (by omega),?_⟩
 rw [KN hy,h.pre,hs];simp
theorem pz.BT {x:List Int} {L R:List (List Int)} {i j:Nat} {y:List Int} (h:pz x L i j R) (hy:L[j]?=some y) (hs:dt x y=false):pz x L (i+1) (j+1) (R.set i y):=by
 have aQ:=(bq.1 hy).1
 have oq:=h.ij
 have hl:=h.len
 refine ⟨by omega,aQ,by rw [y4];exact h.len,λk hk=>?_,?_⟩
 ·rw [fQ (by omega)];exact h.at_ k (by omega)
 rw [KN hy,<-h.pre,hs,jm,nH (by omega),nJ,List.take_set_of_le (fP _)];simp
theorem pz.start {x:List Int} {L:List (List Int)} {i:Nat} {y:List Int} (h:∀j,j < i->∀y,L[j]?=some y->dt x y=false) (hy:L[i]?=some y) (hs:dt x y=true):pz x L i (i+1) L:=by
 have aQ:=(bq.1 hy).1
 refine ⟨Nat.le_succ _,aQ,rfl,λ_ _=>rfl,?_⟩
 rw [KN hy,hs]
 simp only [Bool.not_true,mT,if_false,yR]
 rw [List.filter_eq_self.2]
 intro z hz
 obtain ⟨k,hk⟩:=qC hz
 rw [kP] at hk
 split at hk
 ·rw [h k (by assumption) z hk];rfl
 ·cases hk
theorem adz {L:List (List Int)} {x y:List Int} {i:Nat} (hy:L[i]?=some y) (hs:dt y x=true):kU L x=L:=by
 unfold kU
 rw [if_pos (G9.2 ⟨y,cL hy,hs⟩)]
theorem adA {L:List (List Int)} {x:List Int} (h:(L.take L.length).any (λy=>dt y x)=false):kU L x=L.filter (λy=>!dt x y)++[x]:=by
 unfold kU
 rw [List.take_length] at h
 rw [if_neg (by rw [h];simp)]
structure EX where
 l:Option (List (List Int))
 x:List Int
def EX.dF (a:EX):List (List Int):=a.l.getD []
def EY (a:EX):Prop:=a.x.length<=1000000/\a.dF.length<=1000000000/\∀y∈a.dF,y.length<=1000000
def mY (L:List (List Int)) (x:List Int):List (List Int):=L.filter (λy=>!dt x y)
def Iv (L:List (List Int)) (x:List Int):Option (List (List Int))->List (List Int)
 | none=>L
 | some r=>mY L x++r
@[reducible] noncomputable def DlS:nU where
 α:=EX
 args a:=match a.l with
  | none=>[.cD,.fn (.func 70) [] [.ptr 0 0]]
  | some _=>[.own 0,.fn (.func 70) [] [.ptr 1 0]]
 io a:=match a.l with
  | none=>[.fix 32 [.sl 1 bH (λ_=>a.x)]]
  | some L=>[.dyn 32 1 fR (λ_=>L),.fix 32 [.sl 1 bH (λ_=>a.x)]]
 pre a:=EY a
 β:=Option (List (List Int))
 post a y:=y=none->mY a.dF a.x=a.dF
 mv:=[]
 res a y:=match a.l with
  | none=>.cD
  | some L=>match y with
   | none=>.own 0
   | some _=>.eh 0 1 (λ_=>0) (λ_=>(mY L a.x).length)
 kZ a y:=match a.l with
  | none=>[.fix 32 [.sl 1 bH (λ_=>a.x)]]
  | some L=>[.dyn 32 1 fR (λ_=>Iv L a.x y),.fix 32 [.sl 1 bH (λ_=>a.x)]]
theorem adB {L:List (List Int)} {x:List Int} (k:∀j,j < L.length->∀y,L[j]?=some y->dt x y=false):mY L x=L:=by
 unfold mY
 rw [List.filter_eq_self]
 intro z hz
 obtain ⟨j,hj⟩:=qC hz
 rw [k j (bq.1 hj).1 z hj];rfl
noncomputable def cDl (n m:Nat):Ctx:=cP n m [(85,Try.f85),(70,Try.f70)] [(68,Ob)] [] [85]
theorem Iw (n m:Nat):CB PP (cDl n m):=cR n m ⟨fo Try.func85,fo Try.func70,trivial⟩ ⟨Vo,trivial⟩
theorem Wr:lW PP 69 DlS:=by
 refine qV (Iw 1 0) (fo Try.func69) (λa y=>by rcases a with ⟨_|_,_⟩<;>rfl) (λa=>by rcases a with ⟨_|_,_⟩<;>exact ⟨rfl,rfl⟩) xe ?_
 rintro ⟨_|L,x⟩ hx
 ·have hm:(none:Option (List (List Int)))=none->mY [] x=[]:=λ_=>rfl
  refine ⟨?_⟩
  cbv
  refine Sat.eE (Iw 1 0) 1 8 [] (λ_:Unit=>[(8,.ic .i64 0)]) (λ_=>[]) (λ_=>True) (λ_=>0) () (by exact aW) (by exact aW) trivial ?_
  intro _ _
  cbv
  exact ⟨none,[],[],by exact aW,by exact aW,⟨hm⟩⟩
 ·obtain ⟨wh,hL,JN⟩:x.length<=1000000/\L.length<=1000000000/\∀y∈L,y.length<=1000000:=hx
  refine ⟨?_⟩
  cbv
  refine Sat.eE (Iw 1 0) 2 8 [] (λi:Nat=>[(8,.i .i64 (λ_=>(i:Int)))]) (λ_=>[]) (λi=>i<=L.length/\∀j,j < i->∀y,L[j]?=some y->dt x y=false) (λi=>L.length - i) 0 (by exact aW) (by exact aW) ⟨cK _,λj h=>absurd h (sZ _)⟩ ?_
  intro i hi
  obtain ⟨hi,ha⟩:i<=L.length/\∀j,j < i->∀y,L[j]?=some y->dt x y=false:=hi
  have h0:=n0 i
  have h1:=eO (i:=i) (by omega)
  cbv
  refine ⟨λh=>?_,λh=>?_⟩
  rotate_left
  ·have b9:L.length<=i:=aL
   have hm:(none:Option (List (List Int)))=none->mY L x=L:=λ_=>adB λj hj=>ha j (by omega)
   cbv
   exact ⟨none,[],[],by exact aW,by exact aW,⟨hm⟩⟩
  have bP:i < L.length:=aL
  have cy:L.length - (i+1) < L.length - i:=by omega
  refine (cC bP).elim λy hy=>?_
  have kX:0<=(i:Int)/\(i:Int).toNat < L.length:=⟨h0,bP⟩
  have dL:x.length<=1000000/\y.length<=1000000:=⟨wh,JN y (cL hy)⟩
  cbv
  refine ⟨⟨kX⟩,y,⟨hy,rfl⟩,?_⟩
  cbv
  refine ⟨⟨x,y⟩,⟨by exact a7,dL⟩,?_⟩
  cbv
  refine ⟨λh=>?_,λh=>?_⟩
  rotate_left
  ·have hs:dt x y=false:=h.out
   have gl:(i+1<=L.length/\∀j,j < i+1->∀y,L[j]?=some y->dt x y=false)/\L.length - (i+1) < L.length - i:=⟨⟨bP,λj hj z hz=>by
    by_cases qY:j=i
    ·subst qY;rw [hy] at hz;cases hz;exact hs
    ·exact ha j (by omega) z hz⟩,cy⟩
   cbv
   exact ⟨i+1,by have bE:=h1;exact a8,by exact aW,⟨gl⟩⟩
  have hs:dt x y=true:=h.out
  have hJ:pz x L i (i+1) L:=.start ha hy hs
  have bM:¬(i:Int)=-1:=by omega
  clear h
  cbv
  refine ⟨λh=>?_,λ_=>?_⟩
  ·have h':(i:Int)=-1:=aL
   cases bM h'
  cbv
  refine Sat.eE (Iw 1 0) 2 5 [] (λg:Nat × Nat × List (List Int)=>[(5,.i .i64 (λ_=>(g.1:Int))),(6,.i .i64 (λ_=>(g.2.1:Int)))]) (λg=>[(0,.dyn 32 1 fR (λ_=>g.2.2))]) (λg=>pz x L g.1 g.2.1 g.2.2) (λg=>L.length - g.2.1) (i,i+1,L) (by have bE:=h1;exact a8) (by exact aW) hJ ?_
  rintro ⟨w,j,R⟩ hJ
  have hJ:pz x L w j R:=hJ
  have yk:=n0 w
  have l7:=n0 j
  obtain ⟨hwj,hjL,hlen,qe,dL⟩:=id hJ
  have Px:=eO (i:=w) (by omega)
  have JM:=eO (i:=j) (by omega)
  cbv
  refine ⟨λh=>?_,λh=>?_⟩
  ·have e7:j < R.length:=aL
   refine (cC e7).elim λy' qd=>?_
   have PC:L[j]?=some y':=(qe j (fP _)).symm.trans qd
   have kX:0<=(j:Int)/\(j:Int).toNat < R.length:=⟨l7,by rw [jw];exact e7⟩
   have wm:0<=(w:Int)/\(w:Int).toNat < R.length:=⟨yk,by rw [jw];omega⟩
   refine (cC (l:=R) (i:=(w:Int).toNat) wm.2).elim λu hu=>?_
   have ahi:x.length<=1000000/\y'.length<=1000000:=⟨wh,JN y' (cL PC)⟩
   have cy:L.length - (j+1) < L.length - j:=by omega
   have CH:dt x y'=true->pz x L w (j+1) R:=λe=>hJ.skip PC e
   have FH:dt x y'=false->pz x L (w+1) (j+1) (R.set (w:Int).toNat y'):=λe=>by rw [jw];exact hJ.BT PC e
   obtain ⟨R',oP⟩:∃R',R.set (w:Int).toNat y'=R':=⟨_,rfl⟩
   rw [oP] at FH
   cbv
   refine ⟨⟨kX⟩,y',⟨qd,rfl⟩,?_⟩
   cbv
   refine ⟨⟨x,y'⟩,⟨by exact a7,ahi⟩,?_⟩
   cbv
   refine ⟨λh=>?_,λh=>?_⟩
   ·have hs:dt x y'=false:=by have h':(!dt x y')=true:=h.out;simpa using h'
    have gl:pz x L (w+1) (j+1) R'/\L.length - (j+1) < L.length - j:=⟨FH hs,cy⟩
    cbv
    refine ⟨⟨wm⟩,(u,y'),⟨hu,rfl,by exact gw⟩,?_⟩
    cbv
    exact ⟨(w+1,j+1,R'),by have bE:=Px;have fO:=JM;exact a8,by have eG:=oP;exact a8,⟨gl⟩⟩
   ·have hs:dt x y'=true:=by have h':(!dt x y')=false:=h.out;simpa using h'
    have gl:pz x L w (j+1) R/\L.length - (j+1) < L.length - j:=⟨CH hs,cy⟩
    cbv
    exact ⟨(w,j+1,R),by have bE:=JM;exact a8,by exact aW,⟨gl⟩⟩
  ·have e7:R.length<=j:=aL
   have hp:R.take w=mY L x:=by rw [dL,jj (by omega)];rfl
   have kX:0<=(w:Int)/\(w:Int)<=(R.length:Int)/\(R.length:Int)<=(R.length:Int):=⟨yk,by omega,nL _⟩
   have jX:(mY L x).length=w:=by rw [<-hp,lQ];omega
   have hq:(w:Int).toNat=(mY L x).length:=by rw [jX];rfl
   obtain ⟨r,Py⟩:∃r,List.replicate ((R.length:Int).toNat - (w:Int).toNat) ([]:List Int)++R.drop ((w:Int).toNat+((R.length:Int).toNat - (w:Int).toNat))=r:=⟨_,rfl⟩
   have hr:R.take (w:Int).toNat++List.replicate ((R.length:Int).toNat - (w:Int).toNat) ([]:List Int)++R.drop ((w:Int).toNat+((R.length:Int).toNat - (w:Int).toNat))=mY L x++r:=by rw [vx,Py,jw,hp]
   have hN:(0:Int)<=0/\(0:Int)<=(w:Int)/\(w:Int)<=((R.take (w:Int).toNat++List.replicate ((R.length:Int).toNat - (w:Int).toNat) ([]:List Int)++R.drop ((w:Int).toNat+((R.length:Int).toNat - (w:Int).toNat))).length:Int):=⟨nL _,yk,by rw [hr,fJ,jX];omega⟩
   cbv
   refine ⟨⟨kX⟩,?_⟩
   cbv
   refine ⟨[],⟨by exact gw⟩,?_⟩
   cbv
   refine ⟨⟨hN⟩,?_⟩
   cbv
   exact ⟨some r,[],[],by ((try cbv)<;>(repeat' (first|with_reducible exact trivial|with_reducible refine And.intro ?_ ?_))<;>(try first|exact cm.refl _|exact cm.dyn rfl|exact cm.map rfl|exact cm.iter rfl rfl (.inl rfl)|exact cm.iter rfl rfl (.inr rfl)|refine cm.fix ?_|refine cm.dyn ?_)<;>((repeat' first|exact cH.nil|exact Le.refl _|refine cH.cons ?_ ?_|exact Le.ic rfl|exact Le.bc rfl|exact Le.i rfl|exact Le.b rfl|exact Le.sl rfl|exact Le.mp rfl|exact Le.fu rfl|exact Le.nX rfl|refine Le.cD rfl (λ_=>?_)|refine Le.dF rfl (λ_ _=>rfl) (λ_=>?_) ?_|refine Le.agg ?_|refine Le.bX ?_|refine Le.fn ?_ ?_|refine Le.cZ ?_|exact trivial|refine And.intro ?_ ?_|refine λ_=>?_|exact Le.any _)))<;>exact .eh rfl hq,by have eG:=hr;exact a8,⟨λe=>by cases e⟩⟩
end Go.Proofs.Pk
