import Derived.Test.YthnhbemmlfaihaaGreatA13
import Derived.Test.YthnhbemmlfaihaaGreatA15
import Derived.Test.YthnhbemmlfaihaaGreatA18
import Derived.Test.YthnhbemmlfaihaaGreatA20
import Derived.Test.YthnhbemmlfaihaaGreatA21
set_option linter.unusedVariables false
set_option linter.unusedSimpArgs false
set_option maxRecDepth 10000
set_option maxHeartbeats 64000000
namespace Go.Proofs.Pk
open Go Go.Vc
structure ke (H:aZ) where
 v:Value
 l:List Int
 is:n9 H (.sl 1 bJ (λ_=>l)) v
 len:l.length<=1000000
instance inS (H:aZ):Inhabited (ke H):=⟨⟨.slice none 0 0,[],⟨⟨none,0,rfl,fN _,.inl rfl⟩,λx=>(dq x).1⟩,cI _⟩⟩
theorem VA {H:aZ}:∀{L:List (List Int)} {vs:List Value},(∀l∈L,l.length<=1000000)->dg H (L.flatMap fT) vs->∃d:List (ke H),d.map ke.l=L/\d.map ke.v=vs
 | [],vs,_,h=>⟨[],rfl,(show vs=[] from h).symm⟩
 | l :: r,vs,hb,h=>by
  rw [o6,show fT l++r.flatMap fT=SV.sl 1 bJ (λ_=>l) :: r.flatMap fT from rfl] at h
  obtain ⟨v,lI,rfl,hv,hr⟩:=h
  obtain ⟨d,h1,h2⟩:=VA (λl hl=>hb l (by simp [hl])) hr
  exact ⟨⟨v,l,hv,hb l (by simp)⟩ :: d,by simp [h1],by simp [h2]⟩
theorem VB {H:aZ}:∀d:List (ke H),dg H ((d.map ke.l).flatMap fT) (d.map ke.v)
 | []=>rfl
 | p :: d=>by
  rw [ig,o6,show fT p.l++(d.map ke.l).flatMap fT=SV.sl 1 bJ (λ_=>p.l) :: (d.map ke.l).flatMap fT from rfl]
  exact ⟨p.v,_,rfl,p.is,VB d⟩
def PJ {H:aZ} (p q:ke H):Int:=iF p.l q.l
theorem acB (a:List Int):iF a a=0:=by unfold iF;rw [if_neg (by omega),if_neg (by omega)];exact SO a
theorem aiT (H:aZ):Sort.SWO (ltOf (PJ (H:=H))) where
 irrefl x:=decide_eq_false (by show ¬iF x.l x.l < 0;rw [acB];omega)
 trans x y z h k:=decide_eq_true (RW (of_decide_eq_true h) (of_decide_eq_true k))
 ntrans x y z h k:=by
  have h:¬iF x.l y.l < 0:=of_decide_eq_false h
  have k:¬iF y.l z.l < 0:=of_decide_eq_false k
  have h1:iF y.l x.l<=0:=by rw [By];omega
  have h2:iF z.l y.l<=0:=by rw [By];omega
  have h3:=QX h2 h1
  rw [By] at h3
  exact decide_eq_false (by show ¬iF x.l z.l < 0;omega)
theorem aiU (H:aZ):OneCell (ke.v (H:=H)):=λx=>by
 obtain ⟨⟨ad,cap,h,-⟩,-⟩:=x.is
 rw [h];rfl
theorem aeX {w w':World} (hF:∀(b:Nat) (o:Obj),w.heap[b]?=some o->w'.heap[b]?=some o) (hd:w.drawn<=w'.drawn) (ho:w'.os=w.os) (ht:w'.tape=w.tape) (hu:w'.output=w.output):∃q os',w'=Sort.grow (w.drewN q) os':=by
 refine ⟨w'.drawn - w.drawn,w'.heap.extract w.heap.size w'.heap.size,?_⟩
 obtain ⟨h,t,d,o,u⟩:=w
 obtain ⟨h',t',d',o',u'⟩:=w'
 dsimp only at *
 subst ho ht hu
 have eU:h.size<=h'.size:=by
  rcases y6 h.size with e|e
  ·omega
  ·have:=(fi.1 (hF (h.size - 1) _ (sY (show h.size - 1 < h.size by omega)))).1;omega
 have e1:h'=h++h'.extract h.size h'.size:=by
  apply Array.ext_getElem?
  intro j
  by_cases hj:j < h.size
  ·rw [Bo hj,sY hj];exact hF j _ (sY hj)
  ·rw [Array.getElem?_append_right (by omega),Array.getElem?_extract]
   by_cases wj:j < h'.size
   ·rw [if_pos (by omega)];congr 1;omega
   ·rw [if_neg (by omega),y3 (by omega)]
 have e2:d+(d' - d)=d':=by omega
 simp only [Sort.grow,World.drewN]
 rw [<-e1,e2]
theorem aeY {P:Unit->Program} {g:FuncId} (hg:cY (P ()) g Oe) {H:aZ} {w:World} (hw:∀(b:Nat) (o:Obj),H b=some o->w.heap[b]?=some o) {blk size:Nat} (hb:H blk=none) :
  CmpLays1 (P ()) g #[] (ke.v (H:=H)) PJ blk 0 size w:=λm os dk hs x y=>by
 obtain ⟨W,hW⟩:∃W,W=sortWorld ke.v w blk 0 m dk os:=⟨_,rfl⟩
 have hHW:∀b o,H b=some o->W.heap[b]?=some o:=λb o ZG=>by
  have h1:=hw b o ZG
  have aP:=(fi.1 h1).1
  have bR:blk≠b:=λe=>by rw [e,ZG] at hb;cases hb
  rw [hW]
  simp only [sortWorld,Sort.grow,Sort.putRow,Sort.mapBlock,Sort.ahead]
  rw [Bo (by simpa using aP),DA,if_neg bR]
  exact h1
 rw [<-hW]
 have h:=hg.run ⟨x.l,y.l⟩ ⟨x.len,y.len⟩ H (λb=>W.heap[b]?) W [x.v,y.v] hHW (λb o h=>h) ⟨_,_,rfl,x.is,_,_,rfl,y.is,rfl⟩
 refine (Calls.drawn h λe w' ⟨v,_,he,_⟩=>⟨v,he⟩).mono ?_
 rintro e w' ⟨⟨v,H',rfl,-,-,hF,-,hv,ho,ht,hu⟩,hd⟩
 refine ⟨?_,aeX hF hd ho ht hu⟩
 rw [show v=Value.int .i64 (iF x.l y.l) from hv]
 rfl
@[reducible] noncomputable def WJ (e:TypeId) (g:FuncId):nU where
 α:=List (List Int)
 args _:=[.own 0,.fn (.func g) [] []]
 io L:=[.dyn e 1 fT (λ_=>L)]
 pre L:=0 < L.length/\L.length < 4611686018427387904/\∀l∈L,l.length<=1000000
 β:=Unit
 post _ _:=True
 mv:=[]
 res _ _:=.cd []
 ld L _:=[.dyn e 1 fT (λ_=>n7 L)]
theorem adQ {P:Unit->Program} {ρ:Go.Shelf.Ren} (L0:SlLaysF.n6 (P ()) ρ) (e:TypeId) {g:FuncId} (hg:cY (P ()) g Oe) (eg:∀args w,(callFunc g args).run (P ()) w=.ok (.enter g args) w) :
  l5 P (ρ.f 6) (WJ e g) where
 len _ _:=rfl
 old l j z h _:=by
  cases j with
  | zero=>cases h;rfl
  | succ j=>simp at h
 nu l y j h:=by
  cases j with
  | zero=>simp at h
  | succ j=>simp at h
 mv:=⟨xe,λ_ _ h=>by cases h⟩
 run L hl:=⟨λf η H a w hS hd D=>by
  obtain ⟨yj,jc,k8⟩:0 < L.length/\L.length < 4611686018427387904/\∀l∈L,l.length<=1000000:=hl
  obtain ⟨v,lI,hv,iX,v2,vs2,rfl,⟨fs,cs,rfl,hfs,fQ⟩,qc⟩:=D.t
  obtain rfl:vs2=[]:=qc
  obtain rfl:fs=[]:=hfs
  obtain rfl:cs=[]:=fQ
  have jH:v=η 0:=by simp only [rel,aO,DX,Slot.live] at iX;exact iX.1
  obtain ⟨vals,jy,oH,-,-⟩:=D.sl 0 _ rfl
  obtain ⟨h1,h2⟩:=jy.pos yj
  obtain ⟨d,J8,PL⟩:=VA k8 oH
  have J8:L=d.map ke.l:=J8.symm
  have PL:vals=d.map ke.v:=PL.symm
  have pw:d.length=L.length:=by rw [J8,jQ]
  rcases h2 with ⟨-,h2⟩|⟨gb,cap,cur,vg,-,hb,tq,jV,eU,Ay⟩
  ·change L.length=0 at h2;omega
  change η 0=.slice (some ⟨gb,0,none⟩) L.length cap at vg
  change L.length<=cap at tq
  change cur.toList.take (L.length*1)=_ at Ay
  rw [o9] at Ay
  have eU:cur.size=cap:=by omega
  have aP:gb < w.heap.size:=(fi.1 hb).1
  have oq:bY (η 0)=some gb:=by
   rw [vg]
   have:cap≠0:=by omega
   simp [bY,this]
  have nW:∀j,j < L.length->cur[j]?=some (ke.v d[j]!):=λj hj=>by
   have h:=congrArg (λz=>z[j]?) Ay
   rw [PL] at h
   simp only [kR,hj,if_true,kB,Dz] at h
   rw [h,eG (show j < d.length by omega),getElem!_pos d j (by omega)];rfl
  have ha:a.tmps=#[.slice (some ⟨gb,0,none⟩) L.length cap,.func (.func g) #[] #[]]:=by
   apply LA.1
   rw [hv,jH,vg]
  have j3:=aeY hg (H:=H) (w:=w) D.hw (blk:=gb) (size:=d.toArray.size) (D.dh 0 gb rfl oq).1
  have hH:Sort.Holds ke.v w gb 0 d.toArray:=λj hj=>by
   have hj:j < L.length:=by rw [<-pw];simpa using hj
   refine ⟨?_,?_⟩
   ·simp only [World.cell?,hb,mZ,Option.isSome_none,mV,if_false]
    rw [nW j hj];simp
   ·simp [World.frozen?,hb]
  have F3:d.toArray.size=L.length:=by rw [Bb];exact pw
  rw [ha,<-F3]
  refine (Any.slices_SortFunc L0 ke.v (aiU H) PJ (aiT H) g #[] gb 0 cap d.toArray w eg j3 hH aP (by rw [F3];exact jc)).mono ?_
  rintro en w' ⟨rfl,d',n,os,CU,Aq,rfl⟩
  obtain ⟨hz,-,CU⟩:=CU
  have hz:d'.size=L.length:=hz.trans F3
  have CU:d'.toList.Perm d:=by
   have e1:d'.extract 0 d.toArray.size=d':=by rw [F3,<-hz];simp
   have e2:d.toArray.extract 0 d.toArray.size=d.toArray:=by simp
   rw [e1,e2] at CU
   exact CU
  have FN:d'.toList.map ke.l=n7 L:=by
   refine ads (by rw [J8];exact CU.map _) ?_
   refine qC.2 λi j hi hj ou=>?_
   have hi:i < d'.size:=by simpa using hi
   have hj:j < d'.size:=by simpa using hj
   have hs:=Aq i j (cI _) ou (by rw [F3,<-hz];exact hj)
   rw [getElem!_pos d' j hj,getElem!_pos d' i hi] at hs
   have hs:¬iF d'[j].l d'[i].l < 0:=of_decide_eq_false hs
   rw [List.getElem_map,List.getElem_map,Array.getElem_toList,Array.getElem_toList,By];omega
  have hlen:(n7 L).length=L.length:=(wX L).length_eq
  have e8:w.grownBy (sortWorld ke.v w gb 0 n d' os) (some gb):=⟨rfl,rfl,rfl,by simp [sortWorld,Sort.grow,Sort.putRow,Sort.mapBlock,Sort.ahead],λk hk bR=>by
   simp only [sortWorld,Sort.grow,Sort.putRow,Sort.mapBlock,Sort.ahead]
   rw [Bo (by simpa using hk),DA]
   rw [if_neg (λe=>bR (by rw [e]))]⟩
  have cb:(sortWorld ke.v w gb 0 n d' os).heap[gb]?=some (.cells (Sort.putCells ke.v 0 d' cur) e (0,0)):=by
   simp only [sortWorld,Sort.grow,Sort.putRow,Sort.mapBlock,Sort.ahead]
   rw [Bo (by simpa using aP),DA,if_pos rfl,hb];rfl
  have D':=D.change (w':=sortWorld ke.v w gb 0 n d' os) (η':=η) (l:=0) (x:=.dyn e 1 fT (λ_=>n7 L)) none rfl (λ_ _=>rfl) (.inr ⟨rfl,rfl,rfl⟩) rfl
   (λo h=>by cases h) (some gb) e8 (λk hk=>.inr ⟨rfl,by cases hk;exact oq⟩) (λb hb=>.inr (.inr ⟨rfl,hb⟩)) (λ_=>by
    refine ⟨d'.toList.map ke.v,.inl ⟨⟨by show (d'.toList.map ke.v).length=(n7 L).length*1;rw [jQ,uk,hz,hlen];omega,.inr ⟨gb,cap,_,by rw [vg];exact congrArg (λk=>Value.slice _ k cap) hlen.symm,cI _,cb,by show (n7 L).length<=cap;omega,jV,by simp [Sort.putCells];omega,?_⟩⟩,λad m h=>by rw [vg] at h;cases h;omega⟩,by show dg H ((n7 L).flatMap fT) _;rw [<-FN];exact VB _,λx hx=>rfl,λx=>qJ x⟩
    apply o7
    intro j
    rw [kR]
    have jf:d'.size=L.length:=hz
    show (if j < (n7 L).length*1 then _ else _)=_
    rw [hlen,o9]
    by_cases hj:j < L.length
    ·rw [if_pos hj,kB,Dz,Dz,sY (show j < d'.size by omega)]
     simp only [Sort.putCells,Array.getElem?_mapIdx]
     rw [sY (show j < cur.size by omega)]
     simp [jf,hj]
    ·rw [if_neg hj,oD (by simp;omega)])
  refine ⟨.tuple #[],_,η,H,.cd [],rfl,?_,⟨rfl,D'.sv,by rw [hd];rfl,D'.h0,D'.hw,D'.fw,D'.hf,D'.sl,D'.dj,D'.dh,D'.os,D'.tape,D'.out⟩,?_⟩
  ·refine ⟨(),[],[],?_,?_,⟨trivial⟩⟩
   ·exact aW
   ·exact aW
  ·simp [rel,aL]⟩
theorem aeZ:l5 PP 272 (WJ 35 273) :=
 adQ Tryz.adP 35 afS (enters_of Tryz.func273 (by kernel_rfl) rfl)
end Go.Proofs.Pk
