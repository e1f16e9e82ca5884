import Derived.Test.YthnhbemmlfaihaaGreatQ11
import Derived.Test.YthnhbemmlfaihaaGreatQ13
import Derived.Test.YthnhbemmlfaihaaGreatQ15
import Derived.Test.YthnhbemmlfaihaaGreatQ17
import Derived.Test.YthnhbemmlfaihaaGreatQ18
set_option linter.unusedVariables false
set_option linter.unusedSimpArgs false
set_option maxRecDepth 10000
set_option maxHeartbeats 64000000
namespace Go.Proofs.Pk
open Go Go.Vc
structure l5 (H:bB) where
 v:Value
 l:List Int
 is:qx H (.sl 1 bP (λ_=>l)) v
 len:l.length<=1000000
instance inS (H:bB):Inhabited (l5 H):=⟨⟨.slice none 0 0,[],⟨⟨none,0,rfl,fq _,.inl rfl⟩,λx=>(df x).1⟩,cg _⟩⟩
theorem acs {H:bB}:∀{L:List (List Int)} {vs:List Value},(∀l∈L,l.length<=1000000)->dJ H (L.flatMap e8) vs->∃d:List (l5 H),d.map l5.l=L/\d.map l5.v=vs
 | [],vs,_,h=>⟨[],rfl,(show vs=[] from h).symm⟩
 | l :: r,vs,hb,h=>by
  rw [qN,show e8 l++r.flatMap e8=SV.sl 1 bP (λ_=>l) :: r.flatMap e8 from rfl] at h
  obtain ⟨v,nW,rfl,hv,hr⟩:=h
  obtain ⟨d,h1,h2⟩:=acs (λl hl=>hb l (by simp [hl])) hr
  exact ⟨⟨v,l,hv,hb l (by simp)⟩ :: d,by simp [h1],by simp [h2]⟩
theorem acu {H:bB}:∀d:List (l5 H),dJ H ((d.map l5.l).flatMap e8) (d.map l5.v)
 | []=>rfl
 | p :: d=>by
  rw [iE,qN,show e8 p.l++(d.map l5.l).flatMap e8=SV.sl 1 bP (λ_=>p.l) :: (d.map l5.l).flatMap e8 from rfl]
  exact ⟨p.v,_,rfl,p.is,acu d⟩
def Wf {H:bB} (p q:l5 H):Int:=jb p.l q.l
theorem akx (a:List Int):jb a a=0:=by unfold jb;rw [if_neg (by omega),if_neg (by omega)];exact Zn a
theorem asd (H:bB):Sort.SWO (ltOf (Wf (H:=H))) where
 irrefl x:=decide_eq_false (by show ¬jb x.l x.l < 0;rw [akx];omega)
 trans x y z h k:=decide_eq_true (YE (of_decide_eq_true h) (of_decide_eq_true k))
 ntrans x y z h k:=by
  have h:¬jb x.l y.l < 0:=of_decide_eq_false h
  have k:¬jb y.l z.l < 0:=of_decide_eq_false k
  have h1:jb y.l x.l<=0:=by rw [C9];omega
  have h2:jb z.l y.l<=0:=by rw [C9];omega
  have h3:=QH h2 h1
  rw [C9] at h3
  exact decide_eq_false (by show ¬jb x.l z.l < 0;omega)
theorem ase (H:bB):OneCell (l5.v (H:=H)):=λx=>by
 obtain ⟨⟨ad,cap,h,-⟩,-⟩:=x.is
 rw [h];rfl
theorem am1 {w w':World} (hF:∀(b:Nat) (o:Obj),w.heap[b]?=some o->w'.heap[b]?=some o) (hd:w.drawn<=w'.drawn) (ho:w'.os=w.os) (ht:w'.tape=w.tape) (hu:w'.output=w.output):∃q os',w'=Sort.grow (w.drewN q) os':=by
 refine ⟨w'.drawn - w.drawn,w'.heap.extract w.heap.size w'.heap.size,?_⟩
 obtain ⟨h,t,d,o,u⟩:=w
 obtain ⟨h',t',d',o',u'⟩:=w'
 dsimp only at *
 subst ho ht hu
 have fv:h.size<=h'.size:=by
  rcases AP h.size with e|e
  ·omega
  ·have:=(fW.1 (hF (h.size - 1) _ (wh (show h.size - 1 < h.size by omega)))).1;omega
 have e1:h'=h++h'.extract h.size h'.size:=by
  apply Array.ext_getElem?
  intro j
  by_cases hj:j < h.size
  ·rw [FZ hj,wh hj];exact hF j _ (wh hj)
  ·rw [Array.getElem?_append_right (by omega),Array.getElem?_extract]
   by_cases td:j < h'.size
   ·rw [if_pos (by omega)];congr 1;omega
   ·rw [if_neg (by omega),C5 (by omega)]
 have e2:d+(d' - d)=d':=by omega
 simp only [Sort.grow,World.drewN]
 rw [<-e1,e2]
theorem am2 {P:Unit->Program} {g:FuncId} (hg:cR (P ()) g UM) {H:bB} {w:World} (hw:∀(b:Nat) (o:Obj),H b=some o->w.heap[b]?=some o) {blk size:Nat} (hb:H blk=none) :
  CmpLays1 (P ()) g #[] (l5.v (H:=H)) Wf blk 0 size w:=λm os dk hs x y=>by
 obtain ⟨W,hW⟩:∃W,W=sortWorld l5.v w blk 0 m dk os:=⟨_,rfl⟩
 have hHW:∀b o,H b=some o->W.heap[b]?=some o:=λb o hbo=>by
  have h1:=hw b o hbo
  have aP:=(fW.1 h1).1
  have bW:blk≠b:=λe=>by rw [e,hbo] at hb;cases hb
  rw [hW]
  simp only [sortWorld,Sort.grow,Sort.putRow,Sort.mapBlock,Sort.ahead]
  rw [FZ (by simpa using aP),IK,if_neg bW]
  exact h1
 rw [<-hW]
 have h:=hg.run ⟨x.l,y.l⟩ ⟨x.len,y.len⟩ H (λb=>W.heap[b]?) W [x.v,y.v] hHW (λb o h=>h) ⟨_,_,rfl,x.is,_,_,rfl,y.is,rfl⟩
 refine (Calls.drawn h λe w' ⟨v,_,he,_⟩=>⟨v,he⟩).mono ?_
 rintro e w' ⟨⟨v,H',rfl,-,-,hF,-,hv,ho,ht,hu⟩,hd⟩
 refine ⟨?_,am1 hF hd ho ht hu⟩
 rw [show v=Value.int .i64 (jb x.l y.l) from hv]
 rfl
@[reducible] noncomputable def adN (e:TypeId) (g:FuncId):pC where
 α:=List (List Int)
 args _:=[.own 0,.fn (.func g) [] []]
 io L:=[.dyn e 1 e8 (λ_=>L)]
 pre L:=0 < L.length/\L.length < 4611686018427387904/\∀l∈L,l.length<=1000000
 β:=Unit
 post _ _:=True
 mv:=[]
 res _ _:=.cS []
 mM L _:=[.dyn e 1 e8 (λ_=>pG L)]
theorem alM {P:Unit->Program} {ρ:Go.Shelf.Ren} (L0:SlLaysF.n6 (P ()) ρ) (e:TypeId) {g:FuncId} (hg:cR (P ()) g UM) (eg:∀args w,(callFunc g args).run (P ()) w=.ok (.enter g args) w) :
  nT P (ρ.f 6) (adN e g) where
 len _ _:=rfl
 old l j z h _:=by
  cases j with
  | zero=>cases h;rfl
  | succ j=>simp at h
 nu l y j h:=by
  cases j with
  | zero=>simp at h
  | succ j=>simp at h
 mv:=⟨Az,λ_ _ h=>by cases h⟩
 run L hl:=⟨λf η H a w hS hd D=>by
  obtain ⟨su,iW,nk⟩:0 < L.length/\L.length < 4611686018427387904/\∀l∈L,l.length<=1000000:=hl
  obtain ⟨v,nW,hv,jI,v2,vs2,rfl,⟨fs,cs,rfl,hfs,fS⟩,rZ⟩:=D.t
  obtain rfl:vs2=[]:=rZ
  obtain rfl:fs=[]:=hfs
  obtain rfl:cs=[]:=fS
  have ib:v=η 0:=by simp only [rel,aW,IH,Slot.live] at jI;exact jI.1
  obtain ⟨vals,lx,pF,-,-⟩:=D.sl 0 _ rfl
  obtain ⟨h1,h2⟩:=lx.pos su
  obtain ⟨d,PU,PV⟩:=acs nk pF
  have PU:L=d.map l5.l:=PU.symm
  have PV:vals=d.map l5.v:=PV.symm
  have jZ:d.length=L.length:=by rw [PU,iR]
  rcases h2 with ⟨-,h2⟩|⟨gb,cap,cur,zP,-,hb,wJ,lO,fv,EK⟩
  ·change L.length=0 at h2;omega
  change η 0=.slice (some ⟨gb,0,none⟩) L.length cap at zP
  change L.length<=cap at wJ
  change cur.toList.take (L.length*1)=_ at EK
  rw [pz] at EK
  have fv:cur.size=cap:=by omega
  have aP:gb < w.heap.size:=(fW.1 hb).1
  have sa:cy (η 0)=some gb:=by
   rw [zP]
   have:cap≠0:=by omega
   simp [cy,this]
  have qt:∀j,j < L.length->cur[j]?=some (l5.v d[j]!):=λj hj=>by
   have h:=congrArg (λz=>z[j]?) EK
   rw [PV] at h
   simp only [ml,hj,if_true,mq,IJ] at h
   rw [h,eI (show j < d.length by omega),getElem!_pos d j (by omega)];rfl
  have ha:a.tmps=#[.slice (some ⟨gb,0,none⟩) L.length cap,.func (.func g) #[] #[]]:=by
   apply Rz.1
   rw [hv,ib,zP]
  have jC:=am2 hg (H:=H) (w:=w) D.hw (blk:=gb) (size:=d.toArray.size) (D.dh 0 gb rfl sa).1
  have hH:Sort.Holds l5.v w gb 0 d.toArray:=λj hj=>by
   have hj:j < L.length:=by rw [<-jZ];simpa using hj
   refine ⟨?_,?_⟩
   ·simp only [World.cell?,hb,py,Option.isSome_none,pv,if_false]
    rw [qt j hj];simp
   ·simp [World.frozen?,hb]
  have K4:d.toArray.size=L.length:=by rw [CT];exact jZ
  rw [ha,<-K4]
  refine (Any.slices_SortFunc L0 l5.v (ase H) Wf (asd H) g #[] gb 0 cap d.toArray w eg jC hH aP (by rw [K4];exact iW)).mono ?_
  rintro en w' ⟨rfl,d',n,os,HI,vH,rfl⟩
  obtain ⟨hz,-,HI⟩:=HI
  have hz:d'.size=L.length:=hz.trans K4
  have HI:d'.toList.Perm d:=by
   have e1:d'.extract 0 d.toArray.size=d':=by rw [K4,<-hz];simp
   have e2:d.toArray.extract 0 d.toArray.size=d.toArray:=by simp
   rw [e1,e2] at HI
   exact HI
  have KQ:d'.toList.map l5.l=pG L:=by
   refine aat (by rw [PU];exact HI.map _) ?_
   refine rG.2 λi j hi hj pP=>?_
   have hi:i < d'.size:=by simpa using hi
   have hj:j < d'.size:=by simpa using hj
   have hs:=vH i j (cg _) pP (by rw [K4,<-hz];exact hj)
   rw [getElem!_pos d' j hj,getElem!_pos d' i hi] at hs
   have hs:¬jb d'[j].l d'[i].l < 0:=of_decide_eq_false hs
   rw [List.getElem_map,List.getElem_map,Array.getElem_toList,Array.getElem_toList,C9];omega
  have hlen:(pG L).length=L.length:=(Av L).length_eq
  have ia:w.grownBy (sortWorld l5.v w gb 0 n d' os) (some gb):=⟨rfl,rfl,rfl,by simp [sortWorld,Sort.grow,Sort.putRow,Sort.mapBlock,Sort.ahead],λk hk bW=>by
   simp only [sortWorld,Sort.grow,Sort.putRow,Sort.mapBlock,Sort.ahead]
   rw [FZ (by simpa using hk),IK]
   rw [if_neg (λe=>bW (by rw [e]))]⟩
  have bS:(sortWorld l5.v w gb 0 n d' os).heap[gb]?=some (.cells (Sort.putCells l5.v 0 d' cur) e (0,0)):=by
   simp only [sortWorld,Sort.grow,Sort.putRow,Sort.mapBlock,Sort.ahead]
   rw [FZ (by simpa using aP),IK,if_pos rfl,hb];rfl
  have D':=D.change (w':=sortWorld l5.v w gb 0 n d' os) (η':=η) (l:=0) (x:=.dyn e 1 e8 (λ_=>pG L)) none rfl (λ_ _=>rfl) (.inr ⟨rfl,rfl,rfl⟩) rfl
   (λo h=>by cases h) (some gb) ia (λk hk=>.inr ⟨rfl,by cases hk;exact sa⟩) (λb hb=>.inr (.inr ⟨rfl,hb⟩)) (λ_=>by
    refine ⟨d'.toList.map l5.v,.inl ⟨⟨by show (d'.toList.map l5.v).length=(pG L).length*1;rw [iR,wm,hz,hlen];omega,.inr ⟨gb,cap,_,by rw [zP];exact congrArg (λk=>Value.slice _ k cap) hlen.symm,cg _,bS,by show (pG L).length<=cap;omega,lO,by simp [Sort.putCells];omega,?_⟩⟩,λad m h=>by rw [zP] at h;cases h;omega⟩,by show dJ H ((pG L).flatMap e8) _;rw [<-KQ];exact acu _,λx hx=>rfl,λx=>nJ x⟩
    apply qO
    intro j
    rw [ml]
    have kM:d'.size=L.length:=hz
    show (if j < (pG L).length*1 then _ else _)=_
    rw [hlen,pz]
    by_cases hj:j < L.length
    ·rw [if_pos hj,mq,IJ,IJ,wh (show j < d'.size by omega)]
     simp only [Sort.putCells,Array.getElem?_mapIdx]
     rw [wh (show j < cur.size by omega)]
     simp [kM,hj]
    ·rw [if_neg hj,nF (by simp;omega)])
  refine ⟨.tuple #[],_,η,H,.cS [],rfl,?_,⟨rfl,D'.sv,by rw [hd];rfl,D'.h0,D'.hw,D'.fw,D'.hf,D'.sl,D'.dj,D'.dh,D'.os,D'.tape,D'.out⟩,?_⟩
  ·refine ⟨(),[],[],?_,?_,⟨trivial⟩⟩
   ·exact aM
   ·exact aM
  ·simp [rel,aQ]⟩
theorem am3:nT PP 272 (adN 35 273) :=
 alM Tryz.alL 35 an8 (enters_of Tryz.func273 (by kernel_rfl) rfl)
end Go.Proofs.Pk
