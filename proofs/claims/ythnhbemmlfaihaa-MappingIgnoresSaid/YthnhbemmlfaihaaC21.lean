import Derived.Test.YthnhbemmlfaihaaC13
import Derived.Test.YthnhbemmlfaihaaC15
import Derived.Test.YthnhbemmlfaihaaC17
import Derived.Test.YthnhbemmlfaihaaC19
import Derived.Test.YthnhbemmlfaihaaC20
set_option linter.unusedVariables false
set_option linter.unusedSimpArgs false
set_option maxRecDepth 10000
set_option maxHeartbeats 64000000
namespace Go.Proofs.Pk
open Go Go.Vc
structure j4 (H:aV) where
 v:Value
 l:List Int
 is:n9 H (.sl 1 bH (λ_=>l)) v
 len:l.length<=1000000
instance inS (H:aV):Inhabited (j4 H):=⟨⟨.slice none 0 0,[],⟨⟨none,0,rfl,fP _,.inl rfl⟩,λx=>(dq x).1⟩,cK _⟩⟩
theorem Vq {H:aV}:∀{L:List (List Int)} {vs:List Value},(∀l∈L,l.length<=1000000)->cW H (L.flatMap fR) vs->∃d:List (j4 H),d.map j4.l=L/\d.map j4.v=vs
 | [],vs,_,h=>⟨[],rfl,(show vs=[] from h).symm⟩
 | l :: r,vs,hb,h=>by
  rw [oZ,show fR l++r.flatMap fR=SV.sl 1 bH (λ_=>l) :: r.flatMap fR from rfl] at h
  obtain ⟨v,lE,rfl,hv,hr⟩:=h
  obtain ⟨d,h1,h2⟩:=Vq (λl hl=>hb l (by simp [hl])) hr
  exact ⟨⟨v,l,hv,hb l (by simp)⟩ :: d,by simp [h1],by simp [h2]⟩
theorem Vr {H:aV}:∀d:List (j4 H),cW H ((d.map j4.l).flatMap fR) (d.map j4.v)
 | []=>rfl
 | p :: d=>by
  rw [il,oZ,show fR p.l++(d.map j4.l).flatMap fR=SV.sl 1 bH (λ_=>p.l) :: (d.map j4.l).flatMap fR from rfl]
  exact ⟨p.v,_,rfl,p.is,Vr d⟩
def PD {H:aV} (p q:j4 H):Int:=iE p.l q.l
theorem acs (a:List Int):iE a a=0:=by unfold iE;rw [if_neg (by omega),if_neg (by omega)];exact SI a
theorem aiK (H:aV):Sort.SWO (ltOf (PD (H:=H))) where
 irrefl x:=decide_eq_false (by show ¬iE x.l x.l < 0;rw [acs];omega)
 trans x y z h k:=decide_eq_true (RS (of_decide_eq_true h) (of_decide_eq_true k))
 ntrans x y z h k:=by
  have h:¬iE x.l y.l < 0:=of_decide_eq_false h
  have k:¬iE y.l z.l < 0:=of_decide_eq_false k
  have h1:iE y.l x.l<=0:=by rw [Bo];omega
  have h2:iE z.l y.l<=0:=by rw [Bo];omega
  have h3:=QR h2 h1
  rw [Bo] at h3
  exact decide_eq_false (by show ¬iE x.l z.l < 0;omega)
theorem aiL (H:aV):OneCell (j4.v (H:=H)):=λx=>by
 obtain ⟨⟨ad,cap,h,-⟩,-⟩:=x.is
 rw [h];rfl
theorem aeO {w w':World} (hF:∀(b:Nat) (o:Obj),w.heap[b]?=some o->w'.heap[b]?=some o) (hd:w.drawn<=w'.drawn) (ho:w'.os=w.os) (ht:w'.tape=w.tape) (hu:w'.output=w.output):∃q os',w'=Sort.grow (w.drewN q) os':=by
 refine ⟨w'.drawn - w.drawn,w'.heap.extract w.heap.size w'.heap.size,?_⟩
 obtain ⟨h,t,d,o,u⟩:=w
 obtain ⟨h',t',d',o',u'⟩:=w'
 dsimp only at *
 subst ho ht hu
 have eQ:h.size<=h'.size:=by
  rcases yZ h.size with e|e
  ·omega
  ·have:=(fa.1 (hF (h.size - 1) _ (sX (show h.size - 1 < h.size by omega)))).1;omega
 have e1:h'=h++h'.extract h.size h'.size:=by
  apply Array.ext_getElem?
  intro j
  by_cases hj:j < h.size
  ·rw [Be hj,sX hj];exact hF j _ (sX hj)
  ·rw [Array.getElem?_append_right (by omega),Array.getElem?_extract]
   by_cases wg:j < h'.size
   ·rw [if_pos (by omega)];congr 1;omega
   ·rw [if_neg (by omega),yW (by omega)]
 have e2:d+(d' - d)=d':=by omega
 simp only [Sort.grow,World.drewN]
 rw [<-e1,e2]
theorem aeP {P:Unit->Program} {g:FuncId} (hg:dm (P ()) g N9) {H:aV} {w:World} (hw:∀(b:Nat) (o:Obj),H b=some o->w.heap[b]?=some o) {blk size:Nat} (hb:H blk=none) :
  CmpLays1 (P ()) g #[] (j4.v (H:=H)) PD blk 0 size w:=λm os dk hs x y=>by
 obtain ⟨W,hW⟩:∃W,W=sortWorld j4.v w blk 0 m dk os:=⟨_,rfl⟩
 have hHW:∀b o,H b=some o->W.heap[b]?=some o:=λb o Zs=>by
  have h1:=hw b o Zs
  have aQ:=(fa.1 h1).1
  have bM:blk≠b:=λe=>by rw [e,Zs] at hb;cases hb
  rw [hW]
  simp only [sortWorld,Sort.grow,Sort.putRow,Sort.mapBlock,Sort.ahead]
  rw [Be (by simpa using aQ),Dp,if_neg bM]
  exact h1
 rw [<-hW]
 have h:=hg.run ⟨x.l,y.l⟩ ⟨x.len,y.len⟩ H (λb=>W.heap[b]?) W [x.v,y.v] hHW (λb o h=>h) ⟨_,_,rfl,x.is,_,_,rfl,y.is,rfl⟩
 refine (Calls.drawn h λe w' ⟨v,_,he,_⟩=>⟨v,he⟩).mono ?_
 rintro e w' ⟨⟨v,H',rfl,-,-,hF,-,hv,ho,ht,hu⟩,hd⟩
 refine ⟨?_,aeO hF hd ho ht hu⟩
 rw [show v=Value.int .i64 (iE x.l y.l) from hv]
 rfl
@[reducible] noncomputable def Ws (e:TypeId) (g:FuncId):nU where
 α:=List (List Int)
 args _:=[.own 0,.fn (.func g) [] []]
 io L:=[.dyn e 1 fR (λ_=>L)]
 pre L:=0 < L.length/\L.length < 4611686018427387904/\∀l∈L,l.length<=1000000
 β:=Unit
 post _ _:=True
 mv:=[]
 res _ _:=.bX []
 kZ L _:=[.dyn e 1 fR (λ_=>n7 L)]
theorem adH {P:Unit->Program} {ρ:Go.Shelf.Ren} (L0:SlLaysF.n6 (P ()) ρ) (e:TypeId) {g:FuncId} (hg:dm (P ()) g N9) (eg:∀args w,(callFunc g args).run (P ()) w=.ok (.enter g args) w) :
  lW P (ρ.f 6) (Ws e g) where
 len _ _:=rfl
 old l j z h _:=by
  cases j with
  | zero=>cases h;rfl
  | succ j=>simp at h
 nu l y j h:=by
  cases j with
  | zero=>simp at h
  | succ j=>simp at h
 mv:=⟨xe,λ_ _ h=>by cases h⟩
 run L hl:=⟨λf η H a w hS hd D=>by
  obtain ⟨yj,jc,kW⟩:0 < L.length/\L.length < 4611686018427387904/\∀l∈L,l.length<=1000000:=hl
  obtain ⟨v,lE,hv,iX,v2,vs2,rfl,⟨fs,cs,rfl,hfs,fM⟩,qa⟩:=D.t
  obtain rfl:vs2=[]:=qa
  obtain rfl:fs=[]:=hfs
  obtain rfl:cs=[]:=fM
  have ko:v=η 0:=by simp only [rel,aP,DK,Slot.live] at iX;exact iX.1
  obtain ⟨vals,jy,oE,-,-⟩:=D.sl 0 _ rfl
  obtain ⟨h1,h2⟩:=jy.pos yj
  obtain ⟨d,JP,PE⟩:=Vq kW oE
  have JP:L=d.map j4.l:=JP.symm
  have PE:vals=d.map j4.v:=PE.symm
  have pn:d.length=L.length:=by rw [JP,kr]
  rcases h2 with ⟨-,h2⟩|⟨gb,cap,cur,wC,-,hb,tq,jS,eQ,Au⟩
  ·change L.length=0 at h2;omega
  change η 0=.slice (some ⟨gb,0,none⟩) L.length cap at wC
  change L.length<=cap at tq
  change cur.toList.take (L.length*1)=_ at Au
  rw [o5] at Au
  have eQ:cur.size=cap:=by omega
  have aQ:gb < w.heap.size:=(fa.1 hb).1
  have pg:bS (η 0)=some gb:=by
   rw [wC]
   have:cap≠0:=by omega
   simp [bS,this]
  have nW:∀j,j < L.length->cur[j]?=some (j4.v d[j]!):=λj hj=>by
   have h:=congrArg (λz=>z[j]?) Au
   rw [PE] at h
   simp only [kP,hj,if_true,k8,Dm] at h
   rw [h,eB (show j < d.length by omega),getElem!_pos d j (by omega)];rfl
  have ha:a.tmps=#[.slice (some ⟨gb,0,none⟩) L.length cap,.func (.func g) #[] #[]]:=by
   apply Ls.1
   rw [hv,ko,wC]
  have jX:=aeP hg (H:=H) (w:=w) D.hw (blk:=gb) (size:=d.toArray.size) (D.dh 0 gb rfl pg).1
  have hH:Sort.Holds j4.v w gb 0 d.toArray:=λj hj=>by
   have hj:j < L.length:=by rw [<-pn];simpa using hj
   refine ⟨?_,?_⟩
   ·simp only [World.cell?,hb,mU,Option.isSome_none,mT,if_false]
    rw [nW j hj];simp
   ·simp [World.frozen?,hb]
  have FJ:d.toArray.size=L.length:=by rw [A0];exact pn
  rw [ha,<-FJ]
  refine (Any.slices_SortFunc L0 j4.v (aiL H) PD (aiK H) g #[] gb 0 cap d.toArray w eg jX hH aQ (by rw [FJ];exact jc)).mono ?_
  rintro en w' ⟨rfl,d',n,os,CI,An,rfl⟩
  obtain ⟨hz,-,CI⟩:=CI
  have hz:d'.size=L.length:=hz.trans FJ
  have CI:d'.toList.Perm d:=by
   have e1:d'.extract 0 d.toArray.size=d':=by rw [FJ,<-hz];simp
   have e2:d.toArray.extract 0 d.toArray.size=d.toArray:=by simp
   rw [e1,e2] at CI
   exact CI
  have Fw:d'.toList.map j4.l=n7 L:=by
   refine adk (by rw [JP];exact CI.map _) ?_
   refine rA.2 λi j hi hj oq=>?_
   have hi:i < d'.size:=by simpa using hi
   have hj:j < d'.size:=by simpa using hj
   have hs:=An i j (cK _) oq (by rw [FJ,<-hz];exact hj)
   rw [getElem!_pos d' j hj,getElem!_pos d' i hi] at hs
   have hs:¬iE d'[j].l d'[i].l < 0:=of_decide_eq_false hs
   rw [List.getElem_map,List.getElem_map,Array.getElem_toList,Array.getElem_toList,Bo];omega
  have hlen:(n7 L).length=L.length:=(wX L).length_eq
  have fN:w.grownBy (sortWorld j4.v w gb 0 n d' os) (some gb):=⟨rfl,rfl,rfl,by simp [sortWorld,Sort.grow,Sort.putRow,Sort.mapBlock,Sort.ahead],λk hk bM=>by
   simp only [sortWorld,Sort.grow,Sort.putRow,Sort.mapBlock,Sort.ahead]
   rw [Be (by simpa using hk),Dp]
   rw [if_neg (λe=>bM (by rw [e]))]⟩
  have bW:(sortWorld j4.v w gb 0 n d' os).heap[gb]?=some (.cells (Sort.putCells j4.v 0 d' cur) e (0,0)):=by
   simp only [sortWorld,Sort.grow,Sort.putRow,Sort.mapBlock,Sort.ahead]
   rw [Be (by simpa using aQ),Dp,if_pos rfl,hb];rfl
  have D':=D.change (w':=sortWorld j4.v w gb 0 n d' os) (η':=η) (l:=0) (x:=.dyn e 1 fR (λ_=>n7 L)) none rfl (λ_ _=>rfl) (.inr ⟨rfl,rfl,rfl⟩) rfl
   (λo h=>by cases h) (some gb) fN (λk hk=>.inr ⟨rfl,by cases hk;exact pg⟩) (λb hb=>.inr (.inr ⟨rfl,hb⟩)) (λ_=>by
    refine ⟨d'.toList.map j4.v,.inl ⟨⟨by show (d'.toList.map j4.v).length=(n7 L).length*1;rw [kr,ug,hz,hlen];omega,.inr ⟨gb,cap,_,by rw [wC];exact congrArg (λk=>Value.slice _ k cap) hlen.symm,cK _,bW,by show (n7 L).length<=cap;omega,jS,by simp [Sort.putCells];omega,?_⟩⟩,λad m h=>by rw [wC] at h;cases h;omega⟩,by show cW H ((n7 L).flatMap fR) _;rw [<-Fw];exact Vr _,λx hx=>rfl,λx=>qF x⟩
    apply o0
    intro j
    rw [kP]
    have iH:d'.size=L.length:=hz
    show (if j < (n7 L).length*1 then _ else _)=_
    rw [hlen,o5]
    by_cases hj:j < L.length
    ·rw [if_pos hj,k8,Dm,Dm,sX (show j < d'.size by omega)]
     simp only [Sort.putCells,Array.getElem?_mapIdx]
     rw [sX (show j < cur.size by omega)]
     simp [iH,hj]
    ·rw [if_neg hj,ox (by simp;omega)])
  refine ⟨.tuple #[],_,η,H,.bX [],rfl,?_,⟨rfl,D'.sv,by rw [hd];rfl,D'.h0,D'.hw,D'.fw,D'.hf,D'.sl,D'.dj,D'.dh,D'.os,D'.tape,D'.out⟩,?_⟩
  ·refine ⟨(),[],[],?_,?_,⟨trivial⟩⟩
   ·exact aW
   ·exact aW
  ·simp [rel,aK]⟩
theorem aeQ:lW PP 56 (Ws 32 57) :=
 adH Try.aeN 32 afG (enters_of Try.func57 (by kernel_rfl) rfl)
end Go.Proofs.Pk
