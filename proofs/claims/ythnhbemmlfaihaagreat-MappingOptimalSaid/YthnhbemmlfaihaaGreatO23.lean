import Derived.Test.YthnhbemmlfaihaaGreatO13
import Derived.Test.YthnhbemmlfaihaaGreatO14
import Derived.Test.YthnhbemmlfaihaaGreatO20
import Derived.Test.YthnhbemmlfaihaaGreatO22
set_option linter.unusedVariables false
set_option linter.unusedSimpArgs false
set_option maxRecDepth 10000
set_option maxHeartbeats 64000000
namespace Go.Proofs.Pk
open Go Go.Vc
@[reducible] noncomputable def LzS:Vc.Spec where
 α:=Int
 args x:=[.i .u64 (λ_=>x)]
 pre x:=x=0
 res _:=.i .i64 (λ_=>0)
noncomputable def cLz (n m:Nat):Ctx:=dM n m [] []
theorem an0 (n m:Nat):CB PP (cLz n m):=dP n m trivial trivial
theorem an1:dt (PP ()) 319 LzS:=by
 refine e6 (an0 0 0) (fo Tryz.func319) (λa=>⟨trivial,trivial⟩) (λa=>trivial) ?_
 intro x hx
 obtain rfl:x=0:=hx
 refine ⟨?_⟩
 cbv
 refine ⟨λh=>?_,λ_=>?_⟩
 ·have h':(4294967296:Int)<=0:=aL
  cases (show False from absurd h' (by decide))
 cbv
 refine ⟨λh=>?_,λ_=>?_⟩
 ·have h':(65536:Int)<=0:=aL
  cases (show False from absurd h' (by decide))
 cbv
 refine ⟨λh=>?_,λ_=>?_⟩
 ·have h':(256:Int)<=0:=aL
  cases (show False from absurd h' (by decide))
 have e1:0<=IntKind.u8.wrap 0/\(IntKind.u8.wrap 0).toNat < 256:=by decide
 have e2:(IntKind.u8.wrap 0).toNat=0:=by decide
 have e3:IntKind.i64.wrap (0+IntKind.i64.wrap 0)=0:=by decide
 cbv
 exact ⟨⟨e1⟩,⟨by exact cd⟩⟩
@[reducible] noncomputable def SnS:Vc.Spec where
 α:=Unit
 args _:=[.sl 1 bC (λ_=>[])]
 pre _:=True
 res _:=.cM []
noncomputable def cSn (n m:Nat):Ctx:=dM n m [(278,Tryz.f278),(277,Tryz.f277),(309,Tryz.f309)] [(319,LzS)] [] [277,309]
theorem RP (n m:Nat):CB PP (cSn n m):=dP n m ⟨fo Tryz.func278,fo Tryz.func277,fo Tryz.func309,trivial⟩ ⟨an1,trivial⟩
theorem an2:dt (PP ()) 265 SnS:=by
 refine e6 (RP 0 0) (fo Tryz.func265) (λa=>⟨λx=>(cP x).1,trivial⟩) (λa=>trivial) ?_
 intro x hx
 have u0:IntKind.u64.wrap ((([]:List Int).length:Nat):Int)=0:=by decide
 have w0:IntKind.i64.wrap (((([]:List Int).length:Nat):Int) - 0)=0:=by decide
 have f0:¬(12:Int) < IntKind.i64.wrap (((([]:List Int).length:Nat):Int) - 0):=by rw [w0];decide
 have f1:¬IntKind.i64.wrap (0+1) < ((([]:List Int).length:Nat):Int):=by decide
 refine ⟨?_⟩
 cbv
 refine ⟨0,⟨by have bD:=u0;exact cd,rfl⟩,?_⟩
 cbv
 refine Sat.cU (RP 0 0) 0 10 [] (λ_:Unit=>[]) (λ_=>[]) (λ_=>True) (λ_=>0) () (by exact aM) (by exact aM) trivial ?_
 intro _ _
 cbv
 refine ⟨λ_=>?_,λh=>?_⟩
 rotate_left
 ·have h':(12:Int) < IntKind.i64.wrap (((([]:List Int).length:Nat):Int) - 0):=aL
  cases f0 h'
 cbv
 refine Sat.cU (RP 0 0) 0 8 [] (λ_:Unit=>[]) (λ_=>[]) (λ_=>True) (λ_=>0) () (by exact aM) (by exact aM) trivial ?_
 intro _ _
 cbv
 refine ⟨λh=>?_,λ_=>?_⟩
 ·have h':IntKind.i64.wrap (0+1) < ((([]:List Int).length:Nat):Int):=aL
  cases f1 h'
 cbv
 exact ⟨by exact bp⟩
theorem Pc {H:bu}:∀{l:List Int} {vs:List Value},dL H (l.flatMap bC) vs↔vs=l.map (Value.int .i64)
 | [],vs=>by simp [aP]
 | x :: r,vs=>by
  have ih:=@Pc H r
  rw [qR,show bC x++r.flatMap bC=SV.i .i64 (λ_=>x) :: r.flatMap bC from rfl]
  simp only [aP,rel,ih]
  constructor
  ·rintro ⟨v,nm,rfl,rfl,rfl⟩;rfl
  ·rintro rfl;exact ⟨_,_,rfl,rfl,rfl⟩
@[reducible] noncomputable def acQ (e:TypeId) (F:List Int->List Int):o6 where
 α:=List Int
 args _:=[.own 0]
 io l:=[.dyn e 1 bC (λ_=>l)]
 pre l:=l.length < 4611686018427387904
 β:=Unit
 post _ _:=True
 mv:=[]
 res _ _:=.cM []
 l7 l _:=[.dyn e 1 bC (λ_=>F l)]
theorem akF {w:World} {e:TypeId} {sz:Nat} {v:Value} {vals:List Value} (h:s9 w e sz v 0 vals):∃ad cap,v=.slice ad 0 cap:=by
 rcases h with ⟨h,-⟩|⟨⟨ad,h⟩,-⟩
 ·rcases h.2 with ⟨h,-⟩|⟨g,cap,cur,h,-⟩
  ·exact ⟨_,_,h⟩
  ·exact ⟨_,_,h⟩
 ·exact ⟨_,_,h⟩
theorem ajj {w w':World} (hF:∀(b:Nat) (o:Obj),w.heap[b]?=some o->w'.heap[b]?=some o) (ho:w'.os=w.os) (ht:w'.tape=w.tape) (hu:w'.output=w.output):w.grownBy w' none:=by
 refine ⟨ho,ht,hu,?_,λb hb _=>?_⟩
 ·rcases BT w.heap.size with e|e
  ·omega
  ·have:=(fQ.1 (hF (w.heap.size - 1) _ (vq (show w.heap.size - 1 < w.heap.size by omega)))).1;omega
 ·rw [vq hb];exact hF b _ (vq hb)
theorem al2 {P:Unit->Program} {fid:FuncId} (e:TypeId) (F:List Int->List Int) (hF:∀l,(F l).length=l.length) (hN:dt (P ()) fid SnS)
  (hC:∀(blk cap:Nat) (zs:List Int) (w:World),Sort.Holds (Value.int .i64) w blk 0 zs.toArray->blk < w.heap.size->zs.length < 4611686018427387904 ->
   Calls (P ()) fid #[.slice (some ⟨blk,0,none⟩) zs.length cap] w λen w'=>en=.returned (.tuple #[])/\∃n os,w'=Sort.grow (Sort.putRow (Value.int .i64) (Sort.ahead w n) blk 0 (F zs).toArray) os) :
  nh P fid (acQ e F) where
 len _ _:=rfl
 old l j z h _:=by
  cases j with
  | zero=>cases h;rfl
  | succ j=>simp at h
 nu l y j h:=by
  cases j with
  | zero=>simp at h
  | succ j=>simp at h
 mv:=⟨zA,λ_ _ h=>by cases h⟩
 run l hl:=⟨λf η H a w hS hd D=>by
  obtain ⟨v,nm,hv,jv,rr⟩:=D.t
  obtain rfl:nm=[]:=rr
  have eM:v=η 0:=by simp only [rel,aS,GS,Slot.live] at jv;exact jv.1
  obtain ⟨vals,kK,qv,-,-⟩:=D.sl 0 _ rfl
  rcases BT l.length with hz|uZ
  ·obtain rfl:l=[]:=iV hz
   have y5:F []=[]:=iV (hF [])
   obtain ⟨ad,cap,gS⟩:=akF kK
   have ha:a.tmps=[v].toArray:=by apply Pz.1;rw [hv]
   rw [ha]
   refine (hN.run () trivial H (λb=>w.heap[b]?) w [v] D.hw (λ_ _ h=>h) ⟨v,[],rfl,⟨⟨ad,cap,eM.trans gS,cg _,.inl rfl⟩,λx=>(cP x).1⟩,rfl⟩).mono ?_
   rintro en w' ⟨u,H',rfl,-,-,hFw,-,hu,ho,ht,du⟩
   obtain ⟨us,rfl,AQ⟩:=hu
   obtain rfl:us=[]:=AQ
   have D':=D.grown (ajj hFw ho ht du)
   refine ⟨.tuple #[],_,η,H,.cM [],rfl,?_,⟨rfl,D'.sv,by rw [hd];rfl,D'.h0,D'.hw,D'.fw,D'.hf,D'.sl,D'.dj,D'.dh,D'.os,D'.tape,D'.out⟩,?_⟩
   ·refine ⟨(),[],[],?_,?_,⟨trivial⟩⟩
    ·exact aM
    ·have fq:=y5.symm;exact a8
   ·simp [rel,aP]
  have hl:0 < l.length/\l.length < 4611686018427387904:=⟨uZ,hl⟩
  obtain ⟨h1,h2⟩:=kK.pos hl.1
  rw [Pc] at qv
  subst qv
  rcases h2 with ⟨-,h2⟩|⟨g,cap,cur,hg,-,hb,vL,kZ,fc,Dq⟩
  ·have:=hl.1;change l.length=0 at h2;omega
  change η 0=.slice (some ⟨g,0,none⟩) l.length cap at hg
  change l.length<=cap at vL
  change cur.toList.take (l.length*1)=_ at Dq
  rw [o0] at Dq
  have fc:cur.size=cap:=by omega
  have aO:g < w.heap.size:=(fQ.1 hb).1
  have pO:∀j,j < l.length->cur[j]?=some (Value.int .i64 l[j]!):=λj hj=>by
   have h:=congrArg (λz=>z[j]?) Dq
   simp only [lO,hj,if_true,ml,GW] at h
   rw [h,ea hj,getElem!_pos l j hj];rfl
  have ha:a.tmps=#[.slice (some ⟨g,0,none⟩) l.length cap]:=by
   apply Pz.1
   rw [hv,eM,hg]
  rw [ha]
  refine (hC g cap l w (λj hj=>?_) aO hl.2).mono ?_
  ·have hj:j < l.length:=by simpa using hj
   refine ⟨?_,?_⟩
   ·simp only [World.cell?,hb,oZ,Option.isSome_none,oX,if_false]
    rw [pO j hj];simp
   ·simp [World.frozen?,hb]
  rintro en w' ⟨rfl,n,os,rfl⟩
  have hlen:=hF l
  have gJ:w.grownBy (Sort.grow (Sort.putRow (Value.int .i64) (Sort.ahead w n) g 0 (F l).toArray) os) (some g):=⟨rfl,rfl,rfl,by simp [Sort.grow,Sort.putRow,Sort.mapBlock,Sort.ahead],λk hk bO=>by
   simp only [Sort.grow,Sort.putRow,Sort.mapBlock,Sort.ahead]
   rw [Et (by simpa using hk),GX]
   rw [if_neg (λe=>bO (by rw [e]))]⟩
  have bV:(Sort.grow (Sort.putRow (Value.int .i64) (Sort.ahead w n) g 0 (F l).toArray) os).heap[g]?=some (.cells (Sort.putCells (Value.int .i64) 0 (F l).toArray cur) e (0,0)):=by
   simp only [Sort.grow,Sort.putRow,Sort.mapBlock,Sort.ahead]
   rw [Et (by simpa using aO),GX,if_pos rfl,hb];rfl
  have D':=D.change (w':=Sort.grow (Sort.putRow (Value.int .i64) (Sort.ahead w n) g 0 (F l).toArray) os) (η':=η) (l:=0) (x:=.dyn e 1 bC (λ_=>F l)) none rfl (λ_ _=>rfl) (.inr ⟨rfl,rfl,rfl⟩) rfl
   (λo h=>by cases h) (some g) gJ (λk hk=>.inr ⟨rfl,by
    cases hk;rw [hg]
    have:cap≠0:=by have:=hl.1;omega
    simp [cy,this]⟩) (λb hb=>.inr (.inr ⟨rfl,hb⟩)) (λ_=>by
    refine ⟨(F l).map (Value.int .i64),.inl ⟨⟨by simp,.inr ⟨g,cap,_,by rw [hg];exact congrArg (λk=>Value.slice _ k cap) hlen.symm,cg _,bV,by show (F l).length<=cap;omega,kZ,by simp [Sort.putCells];omega,?_⟩⟩,λad m h=>by rw [hg] at h;cases h;have:=hl.1;omega⟩,Pc.2 rfl,λx hx=>rfl,λx=>cP x⟩
    apply qS
    intro j
    rw [lO]
    by_cases hj:j < (F l).length
    ·rw [if_pos (by simpa using hj),ml,ea hj,GW]
     simp only [Sort.putCells,Array.getElem?_mapIdx]
     rw [vq (show j < cur.size by omega)]
     simp [hj]
    ·rw [if_neg (by simpa using hj),pD (by simp;omega)])
  refine ⟨.tuple #[],_,η,H,.cM [],rfl,?_,⟨rfl,D'.sv,by rw [hd];rfl,D'.h0,D'.hw,D'.fw,D'.hf,D'.sl,D'.dj,D'.dh,D'.os,D'.tape,D'.out⟩,?_⟩
  ·refine ⟨(),[],[],?_,?_,⟨trivial⟩⟩
   ·exact aM
   ·exact aM
  ·simp [rel,aP]⟩
def si (l:List Int):List Int:=l.mergeSort λx y=>decide (x<=y)
theorem Rc:nh PP 265 (acQ 3 si) :=
 al2 3 si (λl=>List.length_mergeSort l) an2 λblk cap zs w h1 h2 h3=>Any.slices_Sort_int Tryz.akE blk 0 cap zs w h1 h2 h3
theorem P1 (x y:Int):∀l:List Int,eF (l++[x,y])=if x=y then eF (l++[x]) else eF (l++[x])++[y]
 | []=>by
  show (if x=y then eF [y] else x :: eF [y])=_
  split
  ·rename_i e;rw [e];rfl
  ·rfl
 | [z]=>by
  show (if z=x then eF ([]++[x,y]) else z :: eF ([]++[x,y]))=if x=y then (if z=x then eF [x] else z :: eF [x]) else (if z=x then eF [x] else z :: eF [x])++[y]
  rw [P1 x y []]
  by_cases h:x=y<;>by_cases h2:z=x<;>simp [h,h2]
 | z :: w :: r=>by
  have ih:=P1 x y (w :: r)
  show (if z=w then eF (w :: r++[x,y]) else z :: eF (w :: r++[x,y]))=if x=y then (if z=w then eF (w :: r++[x]) else z :: eF (w :: r++[x])) else (if z=w then eF (w :: r++[x]) else z :: eF (w :: r++[x]))++[y]
  rw [ih]
  by_cases h:x=y<;>by_cases h2:z=w<;>simp [h,h2]
theorem KH {l:List Int} {k:Nat} {x y:Int} (hx:l[k]?=some x) (hy:l[k+1]?=some y):eF (l.take (k+2))=if x=y then eF (l.take (k+1)) else eF (l.take (k+1))++[y]:=by
 rw [kf (i:=k+1),hy,kf (i:=k),hx]
 simp only [pF,List.append_assoc,List.singleton_append]
 exact P1 x y _
structure rF (l:List Int) (k w j:Nat) (R:List Int):Prop where
 j1:1<=j
 w1:1<=w
 wk:w+1<=k+j
 kj:k+j<=l.length
 len:R.length=l.length
 at_:∀i,k+j<=i+1->R[i]?=l[i]?
 pre:R.take w=eF (l.take (k+j))
theorem rF.start {l:List Int} {k:Nat} {x:Int} (h:l.take k=eF (l.take k)) (hk:1<=k) (hy:l[k]?=some x) (hx:l[k - 1]?=some x):rF l k k 1 l:=by
 have aO:=(a7.1 hy).1
 refine ⟨fb _,hk,fb _,aO,rfl,λi _=>rfl,?_⟩
 have:=KH (l:=l) (k:=k - 1) hx (by rw [show k - 1+1=k by omega];exact hy)
 rw [show k - 1+2=k+1 by omega,if_pos rfl,show k - 1+1=k by omega,<-h] at this
 exact this.symm
theorem rF.skip {l R:List Int} {k w j:Nat} {x:Int} (h:rF l k w j R) (hy:R[k+j]?=some x) (hx:R[k+j - 1]?=some x):rF l k w (j+1) R:=by
 have:=h.j1;have:=h.w1;have:=h.wk
 rw [h.at_ _ (by omega)] at hx hy
 have aO:=(a7.1 hy).1
 refine ⟨by omega,h.w1,by omega,by omega,h.len,λi hi=>h.at_ i (by omega),?_⟩
 have:=KH (l:=l) (k:=k+j - 1) hx (by rw [show k+j - 1+1=k+j by omega];exact hy)
 rw [show k+j - 1+2=k+(j+1) by omega,if_pos rfl,show k+j - 1+1=k+j by omega] at this
 rw [h.pre,this]
theorem rF.add {l R:List Int} {k w j:Nat} {x y:Int} (h:rF l k w j R) (hy:R[k+j]?=some y) (hx:R[k+j - 1]?=some x) (bO:x≠y):rF l k (w+1) (j+1) (R.set w y):=by
 have:=h.j1;have:=h.w1;have:=h.wk
 rw [h.at_ _ (by omega)] at hx hy
 have aO:=(a7.1 hy).1
 have hl:=h.len
 refine ⟨by omega,by omega,by omega,by omega,by rw [x4];exact h.len,λi hi=>?_,?_⟩
 ·rw [gK (by omega)];exact h.at_ i (by omega)
 have:=KH (l:=l) (k:=k+j - 1) hx (by rw [show k+j - 1+1=k+j by omega];exact hy)
 rw [show k+j - 1+2=k+(j+1) by omega,if_neg bO,show k+j - 1+1=k+j by omega] at this
 rw [this,<-h.pre,kf,pC (by omega),pF,List.take_set_of_le (fb _)]
def HW (l:List Int):Option (List Int)->List Int
 | none=>l
 | some r=>eF l++r
@[reducible] noncomputable def al3:o6 where
 α:=List Int
 args _:=[.own 0]
 io l:=[.dyn 3 1 bC (λ_=>l)]
 pre l:=l.length<=1000000
 β:=Option (List Int)
 post l y:=y=none->eF l=l
 mv:=[]
 res l y:=match y with
  | none=>.own 0
  | some _=>.eU 0 1 (λ_=>0) (λ_=>(eF l).length)
 l7 l y:=[.dyn 3 1 bC (λ_=>HW l y)]
noncomputable def apS (n m:Nat):Ctx:=dM n m [] []
theorem Re (n m:Nat):CB PP (apS n m):=dP n m trivial trivial
theorem YE:nh PP 302 al3:=by
 refine sA (Re 0 0) (fo Tryz.func302) (λa y=>rfl) (λa=>⟨rfl,rfl⟩) zA ?_
 intro l hx
 have hl:l.length<=1000000:=hx
 have k9:l.length < 2->eF l=l:=λh=>by
  match l,h with
  | [],_=>rfl
  | [x],_=>rfl
 have yY:eF (l.take 1)=l.take 1:=by
  match l with
  | []=>rfl
  | x :: r=>rfl
 refine ⟨?_⟩
 cbv
 refine ⟨λh=>?_,λh=>?_⟩
 ·have h':l.length < 2:=aL
  have hp:(none:Option (List Int))=none->eF l=l:=λ_=>k9 h'
  cbv
  exact ⟨none,[],[],by exact aM,by exact aM,⟨hp⟩⟩
 have h2:2<=l.length:=aL
 cbv
 refine Sat.cU (Re 0 0) 1 3 [] (λi:Nat=>[(3,.i .i64 (λ_=>(i:Int)))]) (λ_=>[]) (λi=>1<=i/\i<=l.length/\eF (l.take i)=l.take i) (λi=>l.length - i) 1 (by exact a8) (by exact aM) ⟨fb _,by omega,yY⟩ ?_
 intro i hi
 obtain ⟨ei,bQ,u5⟩:1<=i/\i<=l.length/\eF (l.take i)=l.take i:=hi
 have h0:=n0 i
 have h1:=cX (i:=i) (by omega)
 have AU:IntKind.i64.wrap ((i:Int) - 1)=((i - 1:Nat):Int):=by rw [cW (by omega) (by omega)];omega
 cbv
 refine ⟨λh=>?_,λh=>?_⟩
 ·have uX:i < l.length:=aL
  refine (bK uX).elim λy hy=>?_
  refine (bK (l:=l) (i:=i - 1) (by omega)).elim λx hx=>?_
  have yR:0<=IntKind.i64.wrap ((i:Int) - 1)/\(IntKind.i64.wrap ((i:Int) - 1)).toNat < l.length:=by rw [AU];exact ⟨n0 _,by rw [ke];omega⟩
  have jB:l[(IntKind.i64.wrap ((i:Int) - 1)).toNat]?=some x:=by rw [AU];exact hx
  have kD:0<=(i:Int)/\(i:Int).toNat < l.length:=⟨h0,uX⟩
  have NW:x=y->rF l i i 1 l:=λe=>.start u5.symm ei hy (e ▸ hx)
  have wx:x≠y->eF (l.take (i+1))=l.take (i+1):=λe=>by
   have:=KH (l:=l) (k:=i - 1) hx (by rw [show i - 1+1=i by omega];exact hy)
   rw [show i - 1+2=i+1 by omega,if_neg e,show i - 1+1=i by omega,u5] at this
   rw [this,kf,hy];rfl
  have bX:l.length - (i+1) < l.length - i:=by omega
  have gS:(0:Int)<=(i:Int)/\(i:Int)<=(l.length:Int)/\(l.length:Int)<=(l.length:Int):=⟨h0,by omega,iU _⟩
  cbv
  refine ⟨⟨kD⟩,y,⟨hy,rfl⟩,?_⟩
  cbv
  refine ⟨⟨yR⟩,x,⟨jB,rfl⟩,?_⟩
  cbv
  refine ⟨λh=>?_,λh=>?_⟩
  ·have uP:y=x:=aL
   have hJ:=NW uP.symm
   cbv
   refine ⟨⟨gS⟩,?_⟩
   cbv
   refine Sat.cU (Re 0 0) 1 3 [] (λg:Nat × Nat × List Int=>[(3,.i .i64 (λ_=>(g.1:Int))),(4,.eU 0 1 (λ_=>i) (λ_=>l.length)),(5,.i .i64 (λ_=>(g.2.1:Int)))]) (λg=>[(0,.dyn 3 1 bC (λ_=>g.2.2))]) (λg=>rF l i g.1 g.2.1 g.2.2) (λg=>l.length - g.2.1) (i,1,l) (by ((try cbv)<;>(repeat' (first|with_reducible exact trivial|with_reducible refine And.intro ?_ ?_))<;>(try first|exact cR.refl _|exact cR.dyn rfl|exact cR.map rfl|exact cR.iter rfl rfl (.inl rfl)|exact cR.iter rfl rfl (.inr rfl)|refine cR.fix ?_|refine cR.dyn ?_)<;>((repeat' first|exact dA.nil|exact Le.refl _|refine dA.cons ?_ ?_|exact Le.ic rfl|exact Le.bc rfl|exact Le.i rfl|exact Le.b rfl|exact Le.sl rfl|exact Le.mp rfl|exact Le.gq rfl|exact Le.pP rfl|refine Le.cQ rfl (λ_=>?_)|refine Le.ew rfl (λ_ _=>rfl) (λ_=>?_) ?_|refine Le.agg ?_|refine Le.cM ?_|refine Le.fn ?_ ?_|refine Le.dV ?_|exact trivial|refine And.intro ?_ ?_|refine λ_=>?_|exact Le.any _)))<;>first|exact .eU (ke _) (ke _)|exact .ic rfl) (by exact aM) hJ ?_
   rintro ⟨w,j,R⟩ hJ
   have hJ:rF l i w j R:=hJ
   have Ba:=n0 w
   have gV:=n0 j
   obtain ⟨jm,hwp,hwk,Uc,hlen,-,ej⟩:=id hJ
   have Ud:=cX (i:=w) (by omega)
   have acR:=cX (i:=j) (by omega)
   have Dh:IntKind.i64.wrap ((j:Int) - 1)=((j - 1:Nat):Int):=by rw [cW (by omega) (by omega)];omega
   cbv
   refine ⟨λh=>?_,λh=>?_⟩
   ·have dG:j < l.length - i:=aL
    have ph:i+j < R.length:=by have:=hlen;omega
    refine (bK ph).elim λy' nV=>?_
    refine (bK (l:=R) (i:=i+j - 1) (by omega)).elim λx' nt=>?_
    have mF:0<=(j:Int)/\(j:Int).toNat < l.length - i:=⟨gV,by rw [ke];exact dG⟩
    have gQ:R[i+(j:Int).toNat]?=some y':=by rw [ke];exact nV
    have C7:0<=IntKind.i64.wrap ((j:Int) - 1)/\(IntKind.i64.wrap ((j:Int) - 1)).toNat < l.length - i:=by rw [Dh];exact ⟨n0 _,by rw [ke];omega⟩
    have mD:R[i+(IntKind.i64.wrap ((j:Int) - 1)).toNat]?=some x':=by rw [Dh,ke,show i+(j - 1)=i+j - 1 by omega];exact nt
    have yV:0<=(w:Int)/\(w:Int).toNat < R.length:=⟨Ba,by rw [ke];omega⟩
    refine (bK (l:=R) (i:=(w:Int).toNat) yV.2).elim λu hu=>?_
    have bX:l.length - (j+1) < l.length - j:=by omega
    have F8:x'=y'->rF l i w (j+1) R:=λe=>hJ.skip nV (e ▸ nt)
    have Jw:x'≠y'->rF l i (w+1) (j+1) (R.set (w:Int).toNat y'):=λe=>by rw [ke];exact hJ.add nV nt e
    obtain ⟨R',qF⟩:∃R',R.set (w:Int).toNat y'=R':=⟨_,rfl⟩
    rw [qF] at Jw
    cbv
    refine ⟨⟨mF⟩,y',⟨gQ,rfl⟩,?_⟩
    cbv
    refine ⟨⟨C7⟩,x',⟨mD,rfl⟩,?_⟩
    cbv
    refine ⟨λh=>?_,λh=>?_⟩
    ·have bO:¬y'=x':=aL
     have gx:rF l i (w+1) (j+1) R'/\l.length - (j+1) < l.length - j:=⟨Jw λe=>bO e.symm,bX⟩
     cbv
     refine ⟨⟨mF⟩,y',⟨gQ,rfl⟩,?_⟩
     cbv
     refine ⟨⟨yV⟩,(u,y'),⟨hu,rfl,by exact bW⟩,?_⟩
     cbv
     exact ⟨(w+1,j+1,R'),by have bD:=Ud;have jE:=acR;exact a8,by have fq:=qF;exact a8,⟨gx⟩⟩
    ·have he:y'=x':=aL
     have gx:rF l i w (j+1) R/\l.length - (j+1) < l.length - j:=⟨F8 he.symm,bX⟩
     cbv
     exact ⟨(w,j+1,R),by have bD:=acR;exact a8,by exact aM,⟨gx⟩⟩
   ·have dG:l.length - i<=j:=aL
    have ph:i+j=l.length:=by omega
    have hp:R.take w=eF l:=by rw [ej,ph,iL (fb _)]
    have mF:0<=(w:Int)/\(w:Int)<=(R.length:Int)/\(R.length:Int)<=(R.length:Int):=⟨Ba,by omega,iU _⟩
    have j3:(eF l).length=w:=by rw [<-hp,jd];omega
    have hq:(w:Int).toNat=(eF l).length:=by rw [j3];rfl
    obtain ⟨r,FK⟩:∃r,List.replicate ((R.length:Int).toNat - (w:Int).toNat) (0:Int)++R.drop ((w:Int).toNat+((R.length:Int).toNat - (w:Int).toNat))=r:=⟨_,rfl⟩
    have hr:R.take (w:Int).toNat++List.replicate ((R.length:Int).toNat - (w:Int).toNat) (0:Int)++R.drop ((w:Int).toNat+((R.length:Int).toNat - (w:Int).toNat))=eF l++r:=by rw [List.append_assoc,FK,ke,hp]
    have hN:(0:Int)<=0/\(0:Int)<=(w:Int)/\(w:Int)<=((R.take (w:Int).toNat++List.replicate ((R.length:Int).toNat - (w:Int).toNat) (0:Int)++R.drop ((w:Int).toNat+((R.length:Int).toNat - (w:Int).toNat))).length:Int):=⟨iU _,Ba,by rw [hr,List.length_append,j3];omega⟩
    cbv
    refine ⟨⟨mF⟩,?_⟩
    cbv
    refine ⟨0,⟨by exact bW⟩,?_⟩
    cbv
    refine ⟨⟨hN⟩,?_⟩
    cbv
    exact ⟨some r,[],[],by ((try cbv)<;>(repeat' (first|with_reducible exact trivial|with_reducible refine And.intro ?_ ?_))<;>(try first|exact cR.refl _|exact cR.dyn rfl|exact cR.map rfl|exact cR.iter rfl rfl (.inl rfl)|exact cR.iter rfl rfl (.inr rfl)|refine cR.fix ?_|refine cR.dyn ?_)<;>((repeat' first|exact dA.nil|exact Le.refl _|refine dA.cons ?_ ?_|exact Le.ic rfl|exact Le.bc rfl|exact Le.i rfl|exact Le.b rfl|exact Le.sl rfl|exact Le.mp rfl|exact Le.gq rfl|exact Le.pP rfl|refine Le.cQ rfl (λ_=>?_)|refine Le.ew rfl (λ_ _=>rfl) (λ_=>?_) ?_|refine Le.agg ?_|refine Le.cM ?_|refine Le.fn ?_ ?_|refine Le.dV ?_|exact trivial|refine And.intro ?_ ?_|refine λ_=>?_|exact Le.any _)))<;>exact .eU rfl hq,by have fq:=hr;exact a8,⟨λe=>by cases e⟩⟩
  ·have uP:¬y=x:=aL
   have hn:=wx λe=>uP e.symm
   have gx:(1<=i+1/\i+1<=l.length/\eF (l.take (i+1))=l.take (i+1))/\l.length - (i+1) < l.length - i:=⟨⟨PC _ _,uX,hn⟩,bX⟩
   cbv
   exact ⟨i+1,by have bD:=h1;exact a8,by exact aM,⟨gx⟩⟩
 ·have cz:l.length<=i:=aL
  have hp:(none:Option (List Int))=none->eF l=l:=λ_=>by rw [iL cz] at u5;exact u5
  cbv
  exact ⟨none,[],[],by exact aM,by exact aM,⟨hp⟩⟩
structure apT where
 a:List Int
 b:List Int
@[reducible] noncomputable def SL:Vc.Spec where
 α:=apT
 args x:=[.sl 1 bC (λ_=>x.a),.sl 1 bC (λ_=>x.b)]
 pre x:=x.a.length<=100000/\x.b.length<=100000
 res x:=.sl 1 bC (λ_=>gE x.a x.b)
 fr:=true
noncomputable def apU (n m:Nat):Ctx:=dM n m [(211,Tryz.f211),(250,Tryz.f250),(265,Tryz.f265),(302,Tryz.f302)] [] [265,302]
theorem al4 (n m:Nat):CB PP (apU n m):=dP n m ⟨fo Tryz.func211,fo Tryz.func250,fo Tryz.func265,fo Tryz.func302,trivial⟩ trivial
theorem aak:dt (PP ()) 270 SL:=by
 refine Z2 (al4 0 0) (fo Tryz.func270) (λa=>⟨λx=>(cP x).1,λx=>(cP x).1,trivial⟩) (λa=>λx=>(cP x).1) ?_
 rintro ⟨a,b⟩ hx
 obtain ⟨ha,hb⟩:a.length<=100000/\b.length<=100000:=hx
 rcases BT (a.length+b.length) with hz|AS
 ·obtain rfl:a=[]:=iV (by omega)
  obtain rfl:b=[]:=iV (by omega)
  have w1:IntKind.i64.wrap (0+((([]:List Int).length:Nat):Int))=0:=by decide
  have f1:¬IntKind.i64.wrap (0+((([]:List Int).length:Nat):Int)) < 0:=by decide
  have f2:¬IntKind.i64.wrap (IntKind.i64.wrap (0+((([]:List Int).length:Nat):Int))+((([]:List Int).length:Nat):Int)) < 0:=by decide
  have f3:¬0 < IntKind.i64.wrap (IntKind.i64.wrap (IntKind.i64.wrap (0+((([]:List Int).length:Nat):Int))+((([]:List Int).length:Nat):Int)) - 0):=by decide
  have hu:([]:List Int)=gE [] []:=rfl
  have Ue:si []=[]:=by simp [si]
  have IY:([]:List Int).length < 4611686018427387904:=by decide
  have hp9:([]:List Int).length<=1000000:=by decide
  have b1:(([]:List Int).length)*8<=140737488355328:=by decide
  have b2:([]:List Int).length<=9223372036854775807:=by decide
  have b3:(([]:List Int).length+([]:List Int).length)*8<=140737488355328:=by decide
  have b4:([]:List Int).length+([]:List Int).length<=9223372036854775807:=by decide
  refine ⟨?_⟩
  cbv
  refine ⟨λh=>?_,λ_=>?_⟩
  ·have h':IntKind.i64.wrap (0+((([]:List Int).length:Nat):Int)) < 0:=aL
   cases f1 h'
  cbv
  refine ⟨λh=>?_,λ_=>?_⟩
  ·have h':IntKind.i64.wrap (IntKind.i64.wrap (0+((([]:List Int).length:Nat):Int))+((([]:List Int).length:Nat):Int)) < 0:=aL
   cases f2 h'
  cbv
  refine ⟨λh=>?_,λ_=>?_⟩
  ·have h':IntKind.i64.wrap (IntKind.i64.wrap (0+((([]:List Int).length:Nat):Int))+((([]:List Int).length:Nat):Int)) < 0:=aL
   cases f2 h'
  cbv
  refine ⟨λh=>?_,λ_=>?_⟩
  ·have h':0 < IntKind.i64.wrap (IntKind.i64.wrap (IntKind.i64.wrap (0+((([]:List Int).length:Nat):Int))+((([]:List Int).length:Nat):Int)) - 0):=aL
   cases f3 h'
  cbv
  refine ⟨[],⟨by exact bW,b1,b2⟩,?_⟩
  cbv
  refine ⟨[],⟨by exact bW,b3,b4⟩,?_⟩
  cbv
  refine fh.uT Rc (λa y=>trivial) [] [2] rfl (by exact bp) (by exact aM) ⟨IY⟩ λy _=>?_
  cbv
  refine fh.io YE [] [2] rfl (by exact bp) (by have fq:=Ue;exact a8) ⟨hp9⟩ λy hy=>?_
  rcases y with _|r
  ·cbv
   refine ⟨?_⟩
   cbv
   exact ⟨by have jM:=hu;exact y6,λx=>rfl⟩
  ·have hle:(eF []).length<=(HW [] (some r)).length:=cg _
   have hr:((HW [] (some r)).take (eF []).length).drop 0=gE [] []:=rfl
   cbv
   refine ⟨?_⟩
   exact ⟨rfl,hle,.sl hr,λx=>rfl⟩
 have w1:IntKind.i64.wrap (0+(a.length:Int))=a.length:=by rw [cW (by omega) (by omega)];omega
 have w2:IntKind.i64.wrap (IntKind.i64.wrap (0+(a.length:Int))+(b.length:Int))=(a.length:Int)+b.length:=by rw [w1,cW (by omega) (by omega)]
 have w3:IntKind.i64.wrap (IntKind.i64.wrap (IntKind.i64.wrap (0+(a.length:Int))+(b.length:Int)) - 0)=(a.length:Int)+b.length:=by rw [w2,cW (by omega) (by omega)];omega
 have f1:¬IntKind.i64.wrap (0+(a.length:Int)) < 0:=by omega
 have f2:¬IntKind.i64.wrap (IntKind.i64.wrap (0+(a.length:Int))+(b.length:Int)) < 0:=by omega
 have f3:¬IntKind.i64.wrap (IntKind.i64.wrap (IntKind.i64.wrap (0+(a.length:Int))+(b.length:Int)) - 0)<=0:=by omega
 obtain ⟨zs,jK,I8⟩:∃zs:List Int,zs.length=a.length+b.length/\∀y∈zs,y=0:=⟨List.replicate (a.length+b.length) 0,vr ..,λy hy=>(Ea.1 hy).2⟩
 have z1:(zs.length:Int)=IntKind.i64.wrap (IntKind.i64.wrap (IntKind.i64.wrap (0+(a.length:Int))+(b.length:Int)) - 0):=by rw [w3,jK];exact Int.natCast_add ..
 have z2:zs.length*8<=140737488355328:=by omega
 have z3:zs.length<=9223372036854775807:=by omega
 have b1:((0:Int).toNat+a.length)*8<=140737488355328:=by rw [show (0:Int).toNat=0 from rfl];omega
 have b2:(0:Int).toNat+a.length<=9223372036854775807:=by rw [show (0:Int).toNat=0 from rfl];omega
 have Uf:zs.take (0:Int).toNat++a=a:=by rw [show (0:Int).toNat=0 from rfl];rfl
 have b3:((zs.take (0:Int).toNat++a).length+b.length)*8<=140737488355328:=by rw [Uf];omega
 have b4:(zs.take (0:Int).toNat++a).length+b.length<=9223372036854775807:=by rw [Uf];omega
 obtain ⟨l,hl⟩:∃l,zs.take (0:Int).toNat++a++b=l:=⟨_,rfl⟩
 have mD:l=a++b:=by rw [<-hl,Uf]
 have mJ:l.length=a.length+b.length:=by rw [mD,List.length_append]
 obtain ⟨m,hm⟩:∃m,si l=m:=⟨_,rfl⟩
 have uL:l.length < 4611686018427387904:=by omega
 have yT:m.length<=1000000:=by rw [<-hm,si,List.length_mergeSort];omega
 have kF:eF m=gE a b:=by
  refine ahX ?_ (by rw [<-hm,<-mD];exact List.mergeSort_perm l _)
  rw [<-hm]
  have:=WW (le:=λx y:Int=>decide (x<=y)) (λa b c h1 h2=>by simp only [decide_eq_true_eq] at *;omega) (λa b=>by simp only [oq,decide_eq_true_eq];omega) l
  unfold si
  simpa using this
 refine ⟨?_⟩
 cbv
 refine ⟨λh=>?_,λ_=>?_⟩
 ·have h':IntKind.i64.wrap (0+(a.length:Int)) < 0:=aL
  cases f1 h'
 cbv
 refine ⟨λh=>?_,λ_=>?_⟩
 ·have h':IntKind.i64.wrap (IntKind.i64.wrap (0+(a.length:Int))+(b.length:Int)) < 0:=aL
  cases f2 h'
 cbv
 refine ⟨λh=>?_,λ_=>?_⟩
 ·have h':IntKind.i64.wrap (IntKind.i64.wrap (0+(a.length:Int))+(b.length:Int)) < 0:=aL
  cases f2 h'
 cbv
 refine ⟨λ_=>?_,λh=>?_⟩
 rotate_left
 ·have h':IntKind.i64.wrap (IntKind.i64.wrap (IntKind.i64.wrap (0+(a.length:Int))+(b.length:Int)) - 0)<=0:=aL
  cases f3 h'
 cbv
 refine ⟨zs,⟨z1,λy hy=>by rw [I8 y hy];exact bW,z2,z3⟩,?_⟩
 cbv
 refine ⟨⟨iU 0,iU 0,n0 _⟩,a,⟨⟨rfl,cg _⟩,by exact bW,b1,b2⟩,?_⟩
 cbv
 refine ⟨b,⟨by exact bW,b3,b4⟩,?_⟩
 cbv
 refine fh.uT Rc (λa y=>trivial) l [3] rfl (by exact bp) (by have fq:=hl;exact a8) ⟨uL⟩ λy _=>?_
 cbv
 refine fh.io YE m [3] rfl (by exact bp) (by have fq:=hm;exact a8) ⟨yT⟩ λy hy=>?_
 rcases y with _|r
 ·have he:eF m=m:=hy.out rfl
  have hr:=he.symm.trans kF
  cbv
  refine ⟨?_⟩
  cbv
  exact ⟨by have jM:=hr;exact y6,λx=>rfl⟩
 ·have hle:(eF m).length<=(HW m (some r)).length:=by show _<=(eF m++r).length;rw [List.length_append];omega
  have hr:((HW m (some r)).take (eF m).length).drop 0=gE a b:=by show ((eF m++r).take (eF m).length).drop 0=_;rw [Eg,PF,kF]
  cbv
  refine ⟨?_⟩
  exact ⟨rfl,hle,.sl hr,λx=>rfl⟩
theorem ajk {A:Type} {f:A->Bool} {l:List A} {i:Nat} {x:A} (h:l[i]?=some x):(l.take (i+1)).any f=((l.take i).any f||f x):=by
 rw [kf,h];simp
theorem YF {A:Type} {f:A->Bool} {l:List A} {i:Nat} {x:A} (h:l[i]?=some x):(l.take (i+1)).all f=((l.take i).all f&&f x):=by
 rw [kf,h];simp
theorem akG {a b:List Int} {i:Nat} {x:Int} (h:a[i]?=some x) (hf:b.contains x=false):dF a b=false :=
 Bool.eq_false_iff.2 λhs=>by
  have:=gM.1 (show a.all (λx=>b.contains x)=true from hs) x (cf h)
  rw [hf] at this;cases this
@[reducible] noncomputable def SM:Vc.Spec where
 α:=L2
 args x:=[.sl 1 bC (λ_=>x.a),.sl 1 bC (λ_=>x.b)]
 pre x:=x.a.length<=1000000/\x.b.length<=1000000
 res x:=.b (λ_=>dF x.a x.b)
noncomputable def apV (n m:Nat):Ctx:=dM n m [(82,Tryz.f82),(176,Tryz.f176),(321,Tryz.f321)] [(263,Mw)] [] [176]
theorem aal (n m:Nat):CB PP (apV n m):=dP n m ⟨fo Tryz.func82,fo Tryz.func176,fo Tryz.func321,trivial⟩ ⟨QL,trivial⟩
theorem aam:dt (PP ()) 305 SM:=by
 refine e6 (aal 0 0) (fo Tryz.func305) (λa=>⟨λx=>(cP x).1,λx=>(cP x).1,trivial⟩) (λa=>trivial) ?_
 rintro ⟨a,b⟩ hx
 obtain ⟨ha,hb⟩:a.length<=1000000/\b.length<=1000000:=hx
 have iK:b.length<=1000000000000:=by omega
 obtain ⟨f,hf⟩:∃f,f=λx=>b.contains x:=⟨_,rfl⟩
 have hu:dF a b=a.all f:=by rw [hf];rfl
 have hz:(a.take 0).all f=true:=rfl
 refine ⟨?_⟩
 cbv
 refine Sat.cU (aal 0 0) 1 8 [] (λi:Nat=>[(8,.i .i64 (λ_=>(i:Int)))]) (λi=>[])
  (λi=>i<=a.length/\(a.take i).all f=true) (λi=>a.length - i) 0 (by exact aM) (by exact aM) ⟨cg _,hz⟩ ?_
 rintro i ⟨hi,ht⟩
 have h0:=n0 i
 have h1:=cX (i:=i) (by omega)
 cbv
 refine ⟨λh=>?_,λh=>?_⟩
 ·have bQ:i < a.length:=aL
  have bX:a.length - (i+1) < a.length - i:=by omega
  refine (bK bQ).elim λx hx=>?_
  cbv
  refine ⟨x,⟨h0,hx⟩,?_⟩
  cbv
  refine ⟨⟨b,x⟩,⟨by exact bp,iK⟩,?_⟩
  cbv
  refine ⟨λh=>?_,λh=>?_⟩
  ·have Ug:b.contains x=false:=by have h':(!b.contains x)=true:=h.out;simpa using h'
   have e:(!fU 0 (i:Int))=dF a b:=by rw [akG hx Ug];simp [fU]
   cbv
   exact ⟨by have po:=e;exact cd⟩
  ·have Ug:b.contains x=true:=by have h':(!b.contains x)=false:=h.out;simpa using h'
   have bV:i+1<=a.length/\(a.take (i+1)).all f=true:=⟨bQ,by rw [YF hx,ht,hf];exact Ug⟩
   cbv
   exact ⟨i+1,by have bD:=h1;exact a8,by exact aM,⟨⟨bV,bX⟩⟩⟩
 ·have cz:a.length<=i:=aL
  have e:true=dF a b:=by rw [hu,<-ht,iL cz]
  cbv
  exact ⟨by have fH:=e;exact cd⟩
structure rG (x:List Int) (L:List (List Int)) (i j:Nat) (R:List (List Int)):Prop where
 ij:i<=j
 jl:j<=L.length
 len:R.length=L.length
 at_:∀k,j<=k->R[k]?=L[k]?
 pre:R.take i=(L.take j).filter (λy=>!dF x y)
theorem OW {A:Type} {f:A->Bool} {l:List A} {j:Nat} {y:A} (h:l[j]?=some y):(l.take (j+1)).filter f=(l.take j).filter f++(if f y then [y] else []):=by
 rw [kf,h,x2,pF]
 congr 1
 by_cases hf:f y=true
 ·simp [hf]
 ·simp [hf]
theorem rG.skip {x:List Int} {L R:List (List Int)} {i j:Nat} {y:List Int} (h:rG x L i j R) (hy:L[j]?=some y) (hs:dF x y=true):rG x L i (j+1) R:=by
 have aO:=(a7.1 hy).1
 refine ⟨by have:=h.ij;omega,aO,h.len,λk hk=>h.at_ k (by omega),?_⟩
 rw [OW hy,h.pre,hs];simp
theorem rG.Fb {x:List Int} {L R:List (List Int)} {i j:Nat} {y:List Int} (h:rG x L i j R) (hy:L[j]?=some y) (hs:dF x y=false):rG x L (i+1) (j+1) (R.set i y):=by
 have aO:=(a7.1 hy).1
 have ph:=h.ij
 have hl:=h.len
 refine ⟨by omega,aO,by rw [x4];exact h.len,λk hk=>?_,?_⟩
 ·rw [gK (by omega)];exact h.at_ k (by omega)
 rw [OW hy,<-h.pre,hs,kf,pC (by omega),pF,List.take_set_of_le (fb _)];simp
theorem rG.start {x:List Int} {L:List (List Int)} {i:Nat} {y:List Int} (h:∀j,j < i->∀y,L[j]?=some y->dF x y=false) (hy:L[i]?=some y) (hs:dF x y=true):rG x L i (i+1) L:=by
 have aO:=(a7.1 hy).1
 refine ⟨Nat.le_succ _,aO,rfl,λ_ _=>rfl,?_⟩
 rw [OW hy,hs]
 simp only [Bool.not_true,oX,if_false,x6]
 rw [List.filter_eq_self.2]
 intro z hz
 obtain ⟨k,hk⟩:=lN hz
 rw [lO] at hk
 split at hk
 ·rw [h k (by assumption) z hk];rfl
 ·cases hk
theorem ajl {L:List (List Int)} {x y:List Int} {i:Nat} (hy:L[i]?=some y) (hs:dF y x=true):ia L x=L:=by
 unfold ia
 rw [if_pos (Ee.2 ⟨y,cf hy,hs⟩)]
theorem ajm {L:List (List Int)} {x:List Int} (h:(L.take L.length).any (λy=>dF y x)=false):ia L x=L.filter (λy=>!dF x y)++[x]:=by
 unfold ia
 rw [x3] at h
 rw [if_neg (by rw [h];simp)]
structure IF where
 l:Option (List (List Int))
 x:List Int
def IF.ew (a:IF):List (List Int):=a.l.getD []
def IG (a:IF):Prop:=a.x.length<=1000000/\a.ew.length<=1000000000/\∀y∈a.ew,y.length<=1000000
def pa (L:List (List Int)) (x:List Int):List (List Int):=L.filter (λy=>!dF x y)
def Mx (L:List (List Int)) (x:List Int):Option (List (List Int))->List (List Int)
 | none=>L
 | some r=>pa L x++r
@[reducible] noncomputable def DlS:o6 where
 α:=IF
 args a:=match a.l with
  | none=>[.cQ,.fn (.func 307) [] [.ptr 0 0]]
  | some _=>[.own 0,.fn (.func 307) [] [.ptr 1 0]]
 io a:=match a.l with
  | none=>[.fix 35 [.sl 1 bC (λ_=>a.x)]]
  | some L=>[.dyn 35 1 eB (λ_=>L),.fix 35 [.sl 1 bC (λ_=>a.x)]]
 pre a:=IG a
 β:=Option (List (List Int))
 post a y:=y=none->pa a.ew a.x=a.ew
 mv:=[]
 res a y:=match a.l with
  | none=>.cQ
  | some L=>match y with
   | none=>.own 0
   | some _=>.eU 0 1 (λ_=>0) (λ_=>(pa L a.x).length)
 l7 a y:=match a.l with
  | none=>[.fix 35 [.sl 1 bC (λ_=>a.x)]]
  | some L=>[.dyn 35 1 eB (λ_=>Mx L a.x y),.fix 35 [.sl 1 bC (λ_=>a.x)]]
theorem ajn {L:List (List Int)} {x:List Int} (k:∀j,j < L.length->∀y,L[j]?=some y->dF x y=false):pa L x=L:=by
 unfold pa
 rw [List.filter_eq_self]
 intro z hz
 obtain ⟨j,hj⟩:=lN hz
 rw [k j (a7.1 hj).1 z hj];rfl
noncomputable def cDl (n m:Nat):Ctx:=dM n m [(320,Tryz.f320),(307,Tryz.f307)] [(305,SM)] [] [320]
theorem My (n m:Nat):CB PP (cDl n m):=dP n m ⟨fo Tryz.func320,fo Tryz.func307,trivial⟩ ⟨aam,trivial⟩
theorem abz:nh PP 306 DlS:=by
 refine sA (My 1 0) (fo Tryz.func306) (λa y=>by rcases a with ⟨_|_,_⟩<;>rfl) (λa=>by rcases a with ⟨_|_,_⟩<;>exact ⟨rfl,rfl⟩) zA ?_
 rintro ⟨_|L,x⟩ hx
 ·have hm:(none:Option (List (List Int)))=none->pa [] x=[]:=λ_=>rfl
  refine ⟨?_⟩
  cbv
  refine Sat.cU (My 1 0) 1 8 [] (λ_:Unit=>[(8,.ic .i64 0)]) (λ_=>[]) (λ_=>True) (λ_=>0) () (by exact aM) (by exact aM) trivial ?_
  intro _ _
  cbv
  exact ⟨none,[],[],by exact aM,by exact aM,⟨hm⟩⟩
 ·obtain ⟨yR,hL,NX⟩:x.length<=1000000/\L.length<=1000000000/\∀y∈L,y.length<=1000000:=hx
  refine ⟨?_⟩
  cbv
  refine Sat.cU (My 1 0) 2 8 [] (λi:Nat=>[(8,.i .i64 (λ_=>(i:Int)))]) (λ_=>[]) (λi=>i<=L.length/\∀j,j < i->∀y,L[j]?=some y->dF x y=false) (λi=>L.length - i) 0 (by exact aM) (by exact aM) ⟨cg _,λj h=>absurd h (qn _)⟩ ?_
  intro i hi
  obtain ⟨hi,ha⟩:i<=L.length/\∀j,j < i->∀y,L[j]?=some y->dF x y=false:=hi
  have h0:=n0 i
  have h1:=cX (i:=i) (by omega)
  cbv
  refine ⟨λh=>?_,λh=>?_⟩
  rotate_left
  ·have cz:L.length<=i:=aL
   have hm:(none:Option (List (List Int)))=none->pa L x=L:=λ_=>ajn λj hj=>ha j (by omega)
   cbv
   exact ⟨none,[],[],by exact aM,by exact aM,⟨hm⟩⟩
  have bQ:i < L.length:=aL
  have bX:L.length - (i+1) < L.length - i:=by omega
  refine (bK bQ).elim λy hy=>?_
  have mF:0<=(i:Int)/\(i:Int).toNat < L.length:=⟨h0,bQ⟩
  have ej:x.length<=1000000/\y.length<=1000000:=⟨yR,NX y (cf hy)⟩
  cbv
  refine ⟨⟨mF⟩,y,⟨hy,rfl⟩,?_⟩
  cbv
  refine ⟨⟨x,y⟩,⟨by exact bp,ej⟩,?_⟩
  cbv
  refine ⟨λh=>?_,λh=>?_⟩
  rotate_left
  ·have hs:dF x y=false:=h.out
   have gx:(i+1<=L.length/\∀j,j < i+1->∀y,L[j]?=some y->dF x y=false)/\L.length - (i+1) < L.length - i:=⟨⟨bQ,λj hj z hz=>by
    by_cases l8:j=i
    ·subst l8;rw [hy] at hz;cases hz;exact hs
    ·exact ha j (by omega) z hz⟩,bX⟩
   cbv
   exact ⟨i+1,by have bD:=h1;exact a8,by exact aM,⟨gx⟩⟩
  have hs:dF x y=true:=h.out
  have hJ:rG x L i (i+1) L:=.start ha hy hs
  have bO:¬(i:Int)=-1:=by omega
  clear h
  cbv
  refine ⟨λh=>?_,λ_=>?_⟩
  ·have h':(i:Int)=-1:=aL
   cases bO h'
  cbv
  refine Sat.cU (My 1 0) 2 5 [] (λg:Nat × Nat × List (List Int)=>[(5,.i .i64 (λ_=>(g.1:Int))),(6,.i .i64 (λ_=>(g.2.1:Int)))]) (λg=>[(0,.dyn 35 1 eB (λ_=>g.2.2))]) (λg=>rG x L g.1 g.2.1 g.2.2) (λg=>L.length - g.2.1) (i,i+1,L) (by have bD:=h1;exact a8) (by exact aM) hJ ?_
  rintro ⟨w,j,R⟩ hJ
  have hJ:rG x L w j R:=hJ
  have Ba:=n0 w
  have gV:=n0 j
  obtain ⟨hwj,hjL,hlen,oG,ej⟩:=id hJ
  have Ud:=cX (i:=w) (by omega)
  have NW:=cX (i:=j) (by omega)
  cbv
  refine ⟨λh=>?_,λh=>?_⟩
  ·have dG:j < R.length:=aL
   refine (bK dG).elim λy' nV=>?_
   have Uh:L[j]?=some y':=(oG j (fb _)).symm.trans nV
   have mF:0<=(j:Int)/\(j:Int).toNat < R.length:=⟨gV,by rw [ke];exact dG⟩
   have yV:0<=(w:Int)/\(w:Int).toNat < R.length:=⟨Ba,by rw [ke];omega⟩
   refine (bK (l:=R) (i:=(w:Int).toNat) yV.2).elim λu hu=>?_
   have an3:x.length<=1000000/\y'.length<=1000000:=⟨yR,NX y' (cf Uh)⟩
   have bX:L.length - (j+1) < L.length - j:=by omega
   have F8:dF x y'=true->rG x L w (j+1) R:=λe=>hJ.skip Uh e
   have Jw:dF x y'=false->rG x L (w+1) (j+1) (R.set (w:Int).toNat y'):=λe=>by rw [ke];exact hJ.Fb Uh e
   obtain ⟨R',qF⟩:∃R',R.set (w:Int).toNat y'=R':=⟨_,rfl⟩
   rw [qF] at Jw
   cbv
   refine ⟨⟨mF⟩,y',⟨nV,rfl⟩,?_⟩
   cbv
   refine ⟨⟨x,y'⟩,⟨by exact bp,an3⟩,?_⟩
   cbv
   refine ⟨λh=>?_,λh=>?_⟩
   ·have hs:dF x y'=false:=by have h':(!dF x y')=true:=h.out;simpa using h'
    have gx:rG x L (w+1) (j+1) R'/\L.length - (j+1) < L.length - j:=⟨Jw hs,bX⟩
    cbv
    refine ⟨⟨yV⟩,(u,y'),⟨hu,rfl,by exact bW⟩,?_⟩
    cbv
    exact ⟨(w+1,j+1,R'),by have bD:=Ud;have jE:=NW;exact a8,by have fq:=qF;exact a8,⟨gx⟩⟩
   ·have hs:dF x y'=true:=by have h':(!dF x y')=false:=h.out;simpa using h'
    have gx:rG x L w (j+1) R/\L.length - (j+1) < L.length - j:=⟨F8 hs,bX⟩
    cbv
    exact ⟨(w,j+1,R),by have bD:=NW;exact a8,by exact aM,⟨gx⟩⟩
  ·have dG:R.length<=j:=aL
   have hp:R.take w=pa L x:=by rw [ej,iL (by omega)];rfl
   have mF:0<=(w:Int)/\(w:Int)<=(R.length:Int)/\(R.length:Int)<=(R.length:Int):=⟨Ba,by omega,iU _⟩
   have j3:(pa L x).length=w:=by rw [<-hp,jd];omega
   have hq:(w:Int).toNat=(pa L x).length:=by rw [j3];rfl
   obtain ⟨r,FK⟩:∃r,List.replicate ((R.length:Int).toNat - (w:Int).toNat) ([]:List Int)++R.drop ((w:Int).toNat+((R.length:Int).toNat - (w:Int).toNat))=r:=⟨_,rfl⟩
   have hr:R.take (w:Int).toNat++List.replicate ((R.length:Int).toNat - (w:Int).toNat) ([]:List Int)++R.drop ((w:Int).toNat+((R.length:Int).toNat - (w:Int).toNat))=pa L x++r:=by rw [List.append_assoc,FK,ke,hp]
   have hN:(0:Int)<=0/\(0:Int)<=(w:Int)/\(w:Int)<=((R.take (w:Int).toNat++List.replicate ((R.length:Int).toNat - (w:Int).toNat) ([]:List Int)++R.drop ((w:Int).toNat+((R.length:Int).toNat - (w:Int).toNat))).length:Int):=⟨iU _,Ba,by rw [hr,List.length_append,j3];omega⟩
   cbv
   refine ⟨⟨mF⟩,?_⟩
   cbv
   refine ⟨[],⟨by exact bW⟩,?_⟩
   cbv
   refine ⟨⟨hN⟩,?_⟩
   cbv
   exact ⟨some r,[],[],by ((try cbv)<;>(repeat' (first|with_reducible exact trivial|with_reducible refine And.intro ?_ ?_))<;>(try first|exact cR.refl _|exact cR.dyn rfl|exact cR.map rfl|exact cR.iter rfl rfl (.inl rfl)|exact cR.iter rfl rfl (.inr rfl)|refine cR.fix ?_|refine cR.dyn ?_)<;>((repeat' first|exact dA.nil|exact Le.refl _|refine dA.cons ?_ ?_|exact Le.ic rfl|exact Le.bc rfl|exact Le.i rfl|exact Le.b rfl|exact Le.sl rfl|exact Le.mp rfl|exact Le.gq rfl|exact Le.pP rfl|refine Le.cQ rfl (λ_=>?_)|refine Le.ew rfl (λ_ _=>rfl) (λ_=>?_) ?_|refine Le.agg ?_|refine Le.cM ?_|refine Le.fn ?_ ?_|refine Le.dV ?_|exact trivial|refine And.intro ?_ ?_|refine λ_=>?_|exact Le.any _)))<;>exact .eU rfl hq,by have fq:=hr;exact a8,⟨λe=>by cases e⟩⟩
end Go.Proofs.Pk
