import Derived.Test.YthnhbemmlfaihaaGreatO13
import Derived.Test.YthnhbemmlfaihaaGreatO20
import Derived.Test.YthnhbemmlfaihaaGreatO23
import Derived.Test.YthnhbemmlfaihaaGreatO25
import Derived.Test.YthnhbemmlfaihaaGreatO26
set_option linter.unusedVariables false
set_option linter.unusedSimpArgs false
set_option maxRecDepth 10000
set_option maxHeartbeats 64000000
namespace Go.Proofs.Pk
open Go Go.Vc
structure lu (H:bu) where
 v:Value
 l:List Int
 is:pU H (.sl 1 bC (λ_=>l)) v
 len:l.length<=1000000
instance inS (H:bu):Inhabited (lu H):=⟨⟨.slice none 0 0,[],⟨⟨none,0,rfl,fb _,.inl rfl⟩,λx=>(cP x).1⟩,cg _⟩⟩
theorem aao {H:bu}:∀{L:List (List Int)} {vs:List Value},(∀l∈L,l.length<=1000000)->dL H (L.flatMap eB) vs->∃d:List (lu H),d.map lu.l=L/\d.map lu.v=vs
 | [],vs,_,h=>⟨[],rfl,(show vs=[] from h).symm⟩
 | l :: r,vs,hb,h=>by
  rw [qR,show eB l++r.flatMap eB=SV.sl 1 bC (λ_=>l) :: r.flatMap eB from rfl] at h
  obtain ⟨v,nm,rfl,hv,hr⟩:=h
  obtain ⟨d,h1,h2⟩:=aao (λl hl=>hb l (by simp [hl])) hr
  exact ⟨⟨v,l,hv,hb l (by simp)⟩ :: d,by simp [h1],by simp [h2]⟩
theorem aap {H:bu}:∀d:List (lu H),dL H ((d.map lu.l).flatMap eB) (d.map lu.v)
 | []=>rfl
 | p :: d=>by
  rw [iG,qR,show eB p.l++(d.map lu.l).flatMap eB=SV.sl 1 bC (λ_=>p.l) :: (d.map lu.l).flatMap eB from rfl]
  exact ⟨p.v,_,rfl,p.is,aap d⟩
def Ui {H:bu} (p q:lu H):Int:=iN p.l q.l
theorem aie (a:List Int):iN a a=0:=by unfold iN;rw [if_neg (by omega),if_neg (by omega)];exact Xo a
theorem apX (H:bu):Sort.SWO (ltOf (Ui (H:=H))) where
 irrefl x:=decide_eq_false (by show ¬iN x.l x.l < 0;rw [aie];omega)
 trans x y z h k:=decide_eq_true (WA (of_decide_eq_true h) (of_decide_eq_true k))
 ntrans x y z h k:=by
  have h:¬iN x.l y.l < 0:=of_decide_eq_false h
  have k:¬iN y.l z.l < 0:=of_decide_eq_false k
  have h1:iN y.l x.l<=0:=by rw [BV];omega
  have h2:iN z.l y.l<=0:=by rw [BV];omega
  have h3:=OK h2 h1
  rw [BV] at h3
  exact decide_eq_false (by show ¬iN x.l z.l < 0;omega)
theorem apY (H:bu):OneCell (lu.v (H:=H)):=λx=>by
 obtain ⟨⟨ad,cap,h,-⟩,-⟩:=x.is
 rw [h];rfl
theorem akL {w w':World} (hF:∀(b:Nat) (o:Obj),w.heap[b]?=some o->w'.heap[b]?=some o) (hd:w.drawn<=w'.drawn) (ho:w'.os=w.os) (ht:w'.tape=w.tape) (hu:w'.output=w.output):∃q os',w'=Sort.grow (w.drewN q) os':=by
 refine ⟨w'.drawn - w.drawn,w'.heap.extract w.heap.size w'.heap.size,?_⟩
 obtain ⟨h,t,d,o,u⟩:=w
 obtain ⟨h',t',d',o',u'⟩:=w'
 dsimp only at *
 subst ho ht hu
 have fc:h.size<=h'.size:=by
  rcases BT h.size with e|e
  ·omega
  ·have:=(fQ.1 (hF (h.size - 1) _ (vq (show h.size - 1 < h.size by omega)))).1;omega
 have e1:h'=h++h'.extract h.size h'.size:=by
  apply Array.ext_getElem?
  intro j
  by_cases hj:j < h.size
  ·rw [Et hj,vq hj];exact hF j _ (vq hj)
  ·rw [Array.getElem?_append_right (by omega),Array.getElem?_extract]
   by_cases sq:j < h'.size
   ·rw [if_pos (by omega)];congr 1;omega
   ·rw [if_neg (by omega),BQ (by omega)]
 have e2:d+(d' - d)=d':=by omega
 simp only [Sort.grow,World.drewN]
 rw [<-e1,e2]
theorem akM {P:Unit->Program} {g:FuncId} (hg:dt (P ()) g SK) {H:bu} {w:World} (hw:∀(b:Nat) (o:Obj),H b=some o->w.heap[b]?=some o) {blk size:Nat} (hb:H blk=none) :
  CmpLays1 (P ()) g #[] (lu.v (H:=H)) Ui blk 0 size w:=λm os dk hs x y=>by
 obtain ⟨W,hW⟩:∃W,W=sortWorld lu.v w blk 0 m dk os:=⟨_,rfl⟩
 have hHW:∀b o,H b=some o->W.heap[b]?=some o:=λb o hbo=>by
  have h1:=hw b o hbo
  have aO:=(fQ.1 h1).1
  have bO:blk≠b:=λe=>by rw [e,hbo] at hb;cases hb
  rw [hW]
  simp only [sortWorld,Sort.grow,Sort.putRow,Sort.mapBlock,Sort.ahead]
  rw [Et (by simpa using aO),GX,if_neg bO]
  exact h1
 rw [<-hW]
 have h:=hg.run ⟨x.l,y.l⟩ ⟨x.len,y.len⟩ H (λb=>W.heap[b]?) W [x.v,y.v] hHW (λb o h=>h) ⟨_,_,rfl,x.is,_,_,rfl,y.is,rfl⟩
 refine (Calls.drawn h λe w' ⟨v,_,he,_⟩=>⟨v,he⟩).mono ?_
 rintro e w' ⟨⟨v,H',rfl,-,-,hF,-,hv,ho,ht,hu⟩,hd⟩
 refine ⟨?_,akL hF hd ho ht hu⟩
 rw [show v=Value.int .i64 (iN x.l y.l) from hv]
 rfl
@[reducible] noncomputable def abA (e:TypeId) (g:FuncId):o6 where
 α:=List (List Int)
 args _:=[.own 0,.fn (.func g) [] []]
 io L:=[.dyn e 1 eB (λ_=>L)]
 pre L:=0 < L.length/\L.length < 4611686018427387904/\∀l∈L,l.length<=1000000
 β:=Unit
 post _ _:=True
 mv:=[]
 res _ _:=.cM []
 l7 L _:=[.dyn e 1 eB (λ_=>lW L)]
theorem aju {P:Unit->Program} {ρ:Go.Shelf.Ren} (L0:SlLaysF.n6 (P ()) ρ) (e:TypeId) {g:FuncId} (hg:dt (P ()) g SK) (eg:∀args w,(callFunc g args).run (P ()) w=.ok (.enter g args) w) :
  nh P (ρ.f 6) (abA e g) where
 len _ _:=rfl
 old l j z h _:=by
  cases j with
  | zero=>cases h;rfl
  | succ j=>simp at h
 nu l y j h:=by
  cases j with
  | zero=>simp at h
  | succ j=>simp at h
 mv:=⟨zA,λ_ _ h=>by cases h⟩
 run L hl:=⟨λf η H a w hS hd D=>by
  obtain ⟨uZ,gQ,mD⟩:0 < L.length/\L.length < 4611686018427387904/\∀l∈L,l.length<=1000000:=hl
  obtain ⟨v,nm,hv,jv,v2,vs2,rfl,⟨fs,cs,rfl,hfs,gk⟩,rr⟩:=D.t
  obtain rfl:vs2=[]:=rr
  obtain rfl:fs=[]:=hfs
  obtain rfl:cs=[]:=gk
  have eM:v=η 0:=by simp only [rel,aS,GS,Slot.live] at jv;exact jv.1
  obtain ⟨vals,kK,qv,-,-⟩:=D.sl 0 _ rfl
  obtain ⟨h1,h2⟩:=kK.pos uZ
  obtain ⟨d,NZ,N1⟩:=aao mD qv
  have NZ:L=d.map lu.l:=NZ.symm
  have N1:vals=d.map lu.v:=N1.symm
  have nX:d.length=L.length:=by rw [NZ,jP]
  rcases h2 with ⟨-,h2⟩|⟨gb,cap,cur,xH,-,hb,vL,kZ,fc,Dq⟩
  ·change L.length=0 at h2;omega
  change η 0=.slice (some ⟨gb,0,none⟩) L.length cap at xH
  change L.length<=cap at vL
  change cur.toList.take (L.length*1)=_ at Dq
  rw [o0] at Dq
  have fc:cur.size=cap:=by omega
  have aO:gb < w.heap.size:=(fQ.1 hb).1
  have oH:cy (η 0)=some gb:=by
   rw [xH]
   have:cap≠0:=by omega
   simp [cy,this]
  have pO:∀j,j < L.length->cur[j]?=some (lu.v d[j]!):=λj hj=>by
   have h:=congrArg (λz=>z[j]?) Dq
   rw [N1] at h
   simp only [lO,hj,if_true,ml,GW] at h
   rw [h,ea (show j < d.length by omega),getElem!_pos d j (by omega)];rfl
  have ha:a.tmps=#[.slice (some ⟨gb,0,none⟩) L.length cap,.func (.func g) #[] #[]]:=by
   apply Pz.1
   rw [hv,eM,xH]
  have j3:=akM hg (H:=H) (w:=w) D.hw (blk:=gb) (size:=d.toArray.size) (D.dh 0 gb rfl oH).1
  have hH:Sort.Holds lu.v w gb 0 d.toArray:=λj hj=>by
   have hj:j < L.length:=by rw [<-nX];simpa using hj
   refine ⟨?_,?_⟩
   ·simp only [World.cell?,hb,oZ,Option.isSome_none,oX,if_false]
    rw [pO j hj];simp
   ·simp [World.frozen?,hb]
  have Jy:d.toArray.size=L.length:=by rw [BG];exact nX
  rw [ha,<-Jy]
  refine (Any.slices_SortFunc L0 lu.v (apY H) Ui (apX H) g #[] gb 0 cap d.toArray w eg j3 hH aO (by rw [Jy];exact gQ)).mono ?_
  rintro en w' ⟨rfl,d',n,os,F9,Dd,rfl⟩
  obtain ⟨hz,-,F9⟩:=F9
  have hz:d'.size=L.length:=hz.trans Jy
  have F9:d'.toList.Perm d:=by
   have e1:d'.extract 0 d.toArray.size=d':=by rw [Jy,<-hz];simp
   have e2:d.toArray.extract 0 d.toArray.size=d.toArray:=by simp
   rw [e1,e2] at F9
   exact F9
  have Jf:d'.toList.map lu.l=lW L:=by
   refine Yv (by rw [NZ];exact F9.map _) ?_
   refine qj.2 λi j hi hj ph=>?_
   have hi:i < d'.size:=by simpa using hi
   have hj:j < d'.size:=by simpa using hj
   have hs:=Dd i j (cg _) ph (by rw [Jy,<-hz];exact hj)
   rw [getElem!_pos d' j hj,getElem!_pos d' i hi] at hs
   have hs:¬iN d'[j].l d'[i].l < 0:=of_decide_eq_false hs
   rw [List.getElem_map,List.getElem_map,Array.getElem_toList,Array.getElem_toList,BV];omega
  have hlen:(lW L).length=L.length:=(wK L).length_eq
  have gJ:w.grownBy (sortWorld lu.v w gb 0 n d' os) (some gb):=⟨rfl,rfl,rfl,by simp [sortWorld,Sort.grow,Sort.putRow,Sort.mapBlock,Sort.ahead],λk hk bO=>by
   simp only [sortWorld,Sort.grow,Sort.putRow,Sort.mapBlock,Sort.ahead]
   rw [Et (by simpa using hk),GX]
   rw [if_neg (λe=>bO (by rw [e]))]⟩
  have bV:(sortWorld lu.v w gb 0 n d' os).heap[gb]?=some (.cells (Sort.putCells lu.v 0 d' cur) e (0,0)):=by
   simp only [sortWorld,Sort.grow,Sort.putRow,Sort.mapBlock,Sort.ahead]
   rw [Et (by simpa using aO),GX,if_pos rfl,hb];rfl
  have D':=D.change (w':=sortWorld lu.v w gb 0 n d' os) (η':=η) (l:=0) (x:=.dyn e 1 eB (λ_=>lW L)) none rfl (λ_ _=>rfl) (.inr ⟨rfl,rfl,rfl⟩) rfl
   (λo h=>by cases h) (some gb) gJ (λk hk=>.inr ⟨rfl,by cases hk;exact oH⟩) (λb hb=>.inr (.inr ⟨rfl,hb⟩)) (λ_=>by
    refine ⟨d'.toList.map lu.v,.inl ⟨⟨by show (d'.toList.map lu.v).length=(lW L).length*1;rw [jP,vw,hz,hlen];omega,.inr ⟨gb,cap,_,by rw [xH];exact congrArg (λk=>Value.slice _ k cap) hlen.symm,cg _,bV,by show (lW L).length<=cap;omega,kZ,by simp [Sort.putCells];omega,?_⟩⟩,λad m h=>by rw [xH] at h;cases h;omega⟩,by show dL H ((lW L).flatMap eB) _;rw [<-Jf];exact aap _,λx hx=>rfl,λx=>mT x⟩
    apply qS
    intro j
    rw [lO]
    have jC:d'.size=L.length:=hz
    show (if j < (lW L).length*1 then _ else _)=_
    rw [hlen,o0]
    by_cases hj:j < L.length
    ·rw [if_pos hj,ml,GW,GW,vq (show j < d'.size by omega)]
     simp only [Sort.putCells,Array.getElem?_mapIdx]
     rw [vq (show j < cur.size by omega)]
     simp [jC,hj]
    ·rw [if_neg hj,pD (by simp;omega)])
  refine ⟨.tuple #[],_,η,H,.cM [],rfl,?_,⟨rfl,D'.sv,by rw [hd];rfl,D'.h0,D'.hw,D'.fw,D'.hf,D'.sl,D'.dj,D'.dh,D'.os,D'.tape,D'.out⟩,?_⟩
  ·refine ⟨(),[],[],?_,?_,⟨trivial⟩⟩
   ·exact aM
   ·exact aM
  ·simp [rel,aP]⟩
theorem akN:nh PP 272 (abA 35 273) :=
 aju Tryz.ajt 35 al1 (enters_of Tryz.func273 (by kernel_rfl) rfl)
end Go.Proofs.Pk
