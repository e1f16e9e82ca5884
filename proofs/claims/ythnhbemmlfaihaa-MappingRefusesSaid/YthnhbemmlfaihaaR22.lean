import Derived.Test.YthnhbemmlfaihaaR13
import Derived.Test.YthnhbemmlfaihaaR15
import Derived.Test.YthnhbemmlfaihaaR18
import Derived.Test.YthnhbemmlfaihaaR20
import Derived.Test.YthnhbemmlfaihaaR21
set_option linter.unusedVariables false
set_option linter.unusedSimpArgs false
set_option maxRecDepth 10000
set_option maxHeartbeats 64000000
namespace Go.Proofs.Pk
open Go Go.Vc
structure kf (H:aV) where
 v:Value
 l:List Int
 is:ox H (.sl 1 bK (λ_=>l)) v
 len:l.length<=1000000
instance inS (H:aV):Inhabited (kf H):=⟨⟨.slice none 0 0,[],⟨⟨none,0,rfl,fT _,.inl rfl⟩,λx=>(dv x).1⟩,cP _⟩⟩
theorem VW {H:aV}:∀{L:List (List Int)} {vs:List Value},(∀l∈L,l.length<=1000000)->cQ H (L.flatMap fP) vs->∃d:List (kf H),d.map kf.l=L/\d.map kf.v=vs
 | [],vs,_,h=>⟨[],rfl,(show vs=[] from h).symm⟩
 | l :: r,vs,hb,h=>by
  rw [oM,show fP l++r.flatMap fP=SV.sl 1 bK (λ_=>l) :: r.flatMap fP from rfl] at h
  obtain ⟨v,lQ,rfl,hv,hr⟩:=h
  obtain ⟨d,h1,h2⟩:=VW (λl hl=>hb l (by simp [hl])) hr
  exact ⟨⟨v,l,hv,hb l (by simp)⟩ :: d,by simp [h1],by simp [h2]⟩
theorem VX {H:aV}:∀d:List (kf H),cQ H ((d.map kf.l).flatMap fP) (d.map kf.v)
 | []=>rfl
 | p :: d=>by
  rw [gS,oM,show fP p.l++(d.map kf.l).flatMap fP=SV.sl 1 bK (λ_=>p.l) :: (d.map kf.l).flatMap fP from rfl]
  exact ⟨p.v,_,rfl,p.is,VX d⟩
def P7 {H:aV} (p q:kf H):Int:=iG p.l q.l
theorem ac1 (a:List Int):iG a a=0:=by unfold iG;rw [if_neg (by omega),if_neg (by omega)];exact Th a
theorem ajq (H:aV):Sort.SWO (ltOf (P7 (H:=H))) where
 irrefl x:=decide_eq_false (by show ¬iG x.l x.l < 0;rw [ac1];omega)
 trans x y z h k:=decide_eq_true (Su (of_decide_eq_true h) (of_decide_eq_true k))
 ntrans x y z h k:=by
  have h:¬iG x.l y.l < 0:=of_decide_eq_false h
  have k:¬iG y.l z.l < 0:=of_decide_eq_false k
  have h1:iG y.l x.l<=0:=by rw [BQ];omega
  have h2:iG z.l y.l<=0:=by rw [BQ];omega
  have h3:=Ru h2 h1
  rw [BQ] at h3
  exact decide_eq_false (by show ¬iG x.l z.l < 0;omega)
theorem ajr (H:aV):OneCell (kf.v (H:=H)):=λx=>by
 obtain ⟨⟨ad,cap,h,-⟩,-⟩:=x.is
 rw [h];rfl
theorem afn {w w':World} (hF:∀(b:Nat) (o:Obj),w.heap[b]?=some o->w'.heap[b]?=some o) (hd:w.drawn<=w'.drawn) (ho:w'.os=w.os) (ht:w'.tape=w.tape) (hu:w'.output=w.output):∃q os',w'=Sort.grow (w.drewN q) os':=by
 refine ⟨w'.drawn - w.drawn,w'.heap.extract w.heap.size w'.heap.size,?_⟩
 obtain ⟨h,t,d,o,u⟩:=w
 obtain ⟨h',t',d',o',u'⟩:=w'
 dsimp only at *
 subst ho ht hu
 have eF:h.size<=h'.size:=by
  rcases zu h.size with e|e
  ·omega
  ·have:=(fe.1 (hF (h.size - 1) _ (tk (show h.size - 1 < h.size by omega)))).1;omega
 have e1:h'=h++h'.extract h.size h'.size:=by
  apply Array.ext_getElem?
  intro j
  by_cases hj:j < h.size
  ·rw [BK hj,tk hj];exact hF j _ (tk hj)
  ·rw [Array.getElem?_append_right (by omega),Array.getElem?_extract]
   by_cases wI:j < h'.size
   ·rw [if_pos (by omega)];congr 1;omega
   ·rw [if_neg (by omega),zq (by omega)]
 have e2:d+(d' - d)=d':=by omega
 simp only [Sort.grow,World.drewN]
 rw [<-e1,e2]
theorem afo {P:Unit->Program} {g:FuncId} (hg:dw (P ()) g OI) {H:aV} {w:World} (hw:∀(b:Nat) (o:Obj),H b=some o->w.heap[b]?=some o) {blk size:Nat} (hb:H blk=none) :
  CmpLays1 (P ()) g #[] (kf.v (H:=H)) P7 blk 0 size w:=λm os dk hs x y=>by
 obtain ⟨W,hW⟩:∃W,W=sortWorld kf.v w blk 0 m dk os:=⟨_,rfl⟩
 have hHW:∀b o,H b=some o->W.heap[b]?=some o:=λb o Z3=>by
  have h1:=hw b o Z3
  have aP:=(fe.1 h1).1
  have bL:blk≠b:=λe=>by rw [e,Z3] at hb;cases hb
  rw [hW]
  simp only [sortWorld,Sort.grow,Sort.putRow,Sort.mapBlock,Sort.ahead]
  rw [BK (by simpa using aP),DX,if_neg bL]
  exact h1
 rw [<-hW]
 have h:=hg.run ⟨x.l,y.l⟩ ⟨x.len,y.len⟩ H (λb=>W.heap[b]?) W [x.v,y.v] hHW (λb o h=>h) ⟨_,_,rfl,x.is,_,_,rfl,y.is,rfl⟩
 refine (Calls.drawn h λe w' ⟨v,_,he,_⟩=>⟨v,he⟩).mono ?_
 rintro e w' ⟨⟨v,H',rfl,-,-,hF,-,hv,ho,ht,hu⟩,hd⟩
 refine ⟨?_,afn hF hd ho ht hu⟩
 rw [show v=Value.int .i64 (iG x.l y.l) from hv]
 rfl
@[reducible] noncomputable def W5 (e:TypeId) (g:FuncId):oj where
 α:=List (List Int)
 args _:=[.own 0,.fn (.func g) [] []]
 io L:=[.dyn e 1 fP (λ_=>L)]
 pre L:=0 < L.length/\L.length < 4611686018427387904/\∀l∈L,l.length<=1000000
 β:=Unit
 post _ _:=True
 mv:=[]
 res _ _:=.ca []
 lz L _:=[.dyn e 1 fP (λ_=>ov L)]
theorem aei {P:Unit->Program} {ρ:Go.Shelf.Ren} (L0:SlLaysF.n6 (P ()) ρ) (e:TypeId) {g:FuncId} (hg:dw (P ()) g OI) (eg:∀args w,(callFunc g args).run (P ()) w=.ok (.enter g args) w) :
  ma P (ρ.f 6) (W5 e g) where
 len _ _:=rfl
 old l j z h _:=by
  cases j with
  | zero=>cases h;rfl
  | succ j=>simp at h
 nu l y j h:=by
  cases j with
  | zero=>simp at h
  | succ j=>simp at h
 mv:=⟨xI,λ_ _ h=>by cases h⟩
 run L hl:=⟨λf η H a w hS hd D=>by
  obtain ⟨yR,jj,lx⟩:0 < L.length/\L.length < 4611686018427387904/\∀l∈L,l.length<=1000000:=hl
  obtain ⟨v,lQ,hv,jd,v2,Z4,rfl,⟨fs,cs,rfl,hfs,fv⟩,pA⟩:=D.t
  obtain rfl:Z4=[]:=pA
  obtain rfl:fs=[]:=hfs
  obtain rfl:cs=[]:=fv
  have kD:v=η 0:=by simp only [rel,aN,Es,Slot.live] at jd;exact jd.1
  obtain ⟨vals,jF,oS,-,-⟩:=D.sl 0 _ rfl
  obtain ⟨h1,h2⟩:=jF.pos yR
  obtain ⟨d,Ko,P8⟩:=VW lx oS
  have Ko:L=d.map kf.l:=Ko.symm
  have P8:vals=d.map kf.v:=P8.symm
  have o7:d.length=L.length:=by rw [Ko,kF]
  rcases h2 with ⟨-,h2⟩|⟨gb,cap,cur,wW,-,hb,tI,j2,eF,AV⟩
  ·change L.length=0 at h2;omega
  change η 0=.slice (some ⟨gb,0,none⟩) L.length cap at wW
  change L.length<=cap at tI
  change cur.toList.take (L.length*1)=_ at AV
  rw [nk] at AV
  have eF:cur.size=cap:=by omega
  have aP:gb < w.heap.size:=(fe.1 hb).1
  have pB:bS (η 0)=some gb:=by
   rw [wW]
   have:cap≠0:=by omega
   simp [bS,this]
  have oo:∀j,j < L.length->cur[j]?=some (kf.v d[j]!):=λj hj=>by
   have h:=congrArg (λz=>z[j]?) AV
   rw [P8] at h
   simp only [kE,hj,if_true,k7,DW] at h
   rw [h,dE (show j < d.length by omega),getElem!_pos d j (by omega)];rfl
  have ha:a.tmps=#[.slice (some ⟨gb,0,none⟩) L.length cap,.func (.func g) #[] #[]]:=by
   apply L4.1
   rw [hv,kD,wW]
  have jK:=afo hg (H:=H) (w:=w) D.hw (blk:=gb) (size:=d.toArray.size) (D.dh 0 gb rfl pB).1
  have hH:Sort.Holds kf.v w gb 0 d.toArray:=λj hj=>by
   have hj:j < L.length:=by rw [<-o7];simpa using hj
   refine ⟨?_,?_⟩
   ·simp only [World.cell?,hb,ni,Option.isSome_none,ng,if_false]
    rw [oo j hj];simp
   ·simp [World.frozen?,hb]
  have Gm:d.toArray.size=L.length:=by rw [zw];exact o7
  rw [ha,<-Gm]
  refine (Any.slices_SortFunc L0 kf.v (ajr H) P7 (ajq H) g #[] gb 0 cap d.toArray w eg jK hH aP (by rw [Gm];exact jj)).mono ?_
  rintro en w' ⟨rfl,d',n,os,Dg,wT,rfl⟩
  obtain ⟨hz,-,Dg⟩:=Dg
  have hz:d'.size=L.length:=hz.trans Gm
  have Dg:d'.toList.Perm d:=by
   have e1:d'.extract 0 d.toArray.size=d':=by rw [Gm,<-hz];simp
   have e2:d.toArray.extract 0 d.toArray.size=d.toArray:=by simp
   rw [e1,e2] at Dg
   exact Dg
  have C3:d'.toList.map kf.l=ov L:=by
   refine adS (by rw [Ko];exact Dg.map _) ?_
   refine qO.2 λi j hi hj oF=>?_
   have hi:i < d'.size:=by simpa using hi
   have hj:j < d'.size:=by simpa using hj
   have hs:=wT i j (cP _) oF (by rw [Gm,<-hz];exact hj)
   rw [getElem!_pos d' j hj,getElem!_pos d' i hi] at hs
   have hs:¬iG d'[j].l d'[i].l < 0:=of_decide_eq_false hs
   rw [List.getElem_map,List.getElem_map,Array.getElem_toList,Array.getElem_toList,BQ];omega
  have hlen:(ov L).length=L.length:=(xw L).length_eq
  have fR:w.grownBy (sortWorld kf.v w gb 0 n d' os) (some gb):=⟨rfl,rfl,rfl,by simp [sortWorld,Sort.grow,Sort.putRow,Sort.mapBlock,Sort.ahead],λk hk bL=>by
   simp only [sortWorld,Sort.grow,Sort.putRow,Sort.mapBlock,Sort.ahead]
   rw [BK (by simpa using hk),DX]
   rw [if_neg (λe=>bL (by rw [e]))]⟩
  have b9:(sortWorld kf.v w gb 0 n d' os).heap[gb]?=some (.cells (Sort.putCells kf.v 0 d' cur) e (0,0)):=by
   simp only [sortWorld,Sort.grow,Sort.putRow,Sort.mapBlock,Sort.ahead]
   rw [BK (by simpa using aP),DX,if_pos rfl,hb];rfl
  have D':=D.change (w':=sortWorld kf.v w gb 0 n d' os) (η':=η) (l:=0) (x:=.dyn e 1 fP (λ_=>ov L)) none rfl (λ_ _=>rfl) (.inr ⟨rfl,rfl,rfl⟩) rfl
   (λo h=>by cases h) (some gb) fR (λk hk=>.inr ⟨rfl,by cases hk;exact pB⟩) (λb hb=>.inr (.inr ⟨rfl,hb⟩)) (λ_=>by
    refine ⟨d'.toList.map kf.v,.inl ⟨⟨by show (d'.toList.map kf.v).length=(ov L).length*1;rw [kF,tp,hz,hlen];omega,.inr ⟨gb,cap,_,by rw [wW];exact congrArg (λk=>Value.slice _ k cap) hlen.symm,cP _,b9,by show (ov L).length<=cap;omega,j2,by simp [Sort.putCells];omega,?_⟩⟩,λad m h=>by rw [wW] at h;cases h;omega⟩,by show cQ H ((ov L).flatMap fP) _;rw [<-C3];exact VX _,λx hx=>rfl,λx=>qS x⟩
    apply nh
    intro j
    rw [kE]
    have jm:d'.size=L.length:=hz
    show (if j < (ov L).length*1 then _ else _)=_
    rw [hlen,nk]
    by_cases hj:j < L.length
    ·rw [if_pos hj,k7,DW,DW,tk (show j < d'.size by omega)]
     simp only [Sort.putCells,Array.getElem?_mapIdx]
     rw [tk (show j < cur.size by omega)]
     simp [jm,hj]
    ·rw [if_neg hj,l7 (by simp;omega)])
  refine ⟨.tuple #[],_,η,H,.ca [],rfl,?_,⟨rfl,D'.sv,by rw [hd];rfl,D'.h0,D'.hw,D'.fw,D'.hf,D'.sl,D'.dj,D'.dh,D'.os,D'.tape,D'.out⟩,?_⟩
  ·refine ⟨(),[],[],?_,?_,⟨trivial⟩⟩
   ·exact aX
   ·exact aX
  ·simp [rel,aK]⟩
theorem afp:ma PP 56 (W5 32 57) :=
 aei Try.afm 32 age (enters_of Try.func57 (by kernel_rfl) rfl)
end Go.Proofs.Pk
