import Derived.Test.YthnhbemmlfaihaaC11
set_option linter.unusedVariables false
set_option linter.unusedSimpArgs false
set_option maxRecDepth 10000
set_option maxHeartbeats 64000000
namespace Go.Vc
open Go
mutual
def ep (g:Nat->Nat):SV->SV
 | .ptr m off=>.ptr (g m) off
 | .fq m sz i off=>.fq (g m) sz i off
 | .own m=>.own (g m)
 | .eh m sz i j=>.eh (g m) sz i j
 | .agg cs=>.agg (oL g cs)
 | .bX cs=>.bX (oL g cs)
 | .dF cs n=>.dF (oL g cs) n
 | .cZ cs off=>.cZ (oL g cs) off
 | .fn f x y=>.fn f (oL g x) (oL g y)
 | .kV t x=>.kV t (ep g x)
 | .sl sz c xs=>.sl sz c xs
 | .fu sz c xs=>.fu sz c xs
 | .mp j c m=>.mp j c m
 | .opt p x=>.opt p x
 | .fm m=>.fm (g m)
 | .fE m=>.fE (g m)
 | .any=>.any
 | .cell=>.cell
 | .bc c=>.bc c
 | .b x=>.b x
 | .nb d p=>.nb d p
 | .ic k x=>.ic k x
 | .i k x=>.i k x
 | .str x=>.str x
 | .v x=>.v x
 | .cD=>.cD
def oL (g:Nat->Nat):List SV->List SV
 | []=>[]
 | x :: r=>ep g x :: oL g r
end
def nN (g:Nat->Nat):Slot->Slot
 | .fix e cs=>.fix e (oL g cs)
 | .dK ts ps dW body st=>.dK (oL g ts) ps dW body st
 | x=>x
section
variable {P:Program} {X:Ctx} {f:Fr} {s s':St} {η:Nat->Value} {H:aV} {a:Act} {w:World}
mutual
theorem xu {q:Nat->Live} {g:Nat->Nat}:∀(x:SV) (v:Value),rel η q H (ep g x) v↔rel (λl=>η (g l)) (λl=>q (g l)) H x v
 | .ptr m off,v=>by simp only [ep,rel]
 | .fq m sz i off,v=>by simp only [ep,rel]
 | .own m,v=>by simp only [ep,rel]
 | .eh m sz i j,v=>by simp only [ep,rel]
 | .agg cs,v=>by
  simp only [ep,rel]
  exact ⟨λ⟨vs,h1,h2⟩=>⟨vs,h1,(mi cs vs).1 h2⟩,λ⟨vs,h1,h2⟩=>⟨vs,h1,(mi cs vs).2 h2⟩⟩
 | .bX cs,v=>by
  simp only [ep,rel]
  exact ⟨λ⟨vs,h1,h2⟩=>⟨vs,h1,(mi cs vs).1 h2⟩,λ⟨vs,h1,h2⟩=>⟨vs,h1,(mi cs vs).2 h2⟩⟩
 | .dF cs n,v=>by
  simp only [ep,rel]
  exact ⟨λ⟨ad,h1,h2⟩=>⟨ad,h1,h2.imp id λ⟨b,h3,h4,vs,h5,h6⟩=>⟨b,h3,h4,vs,(mi cs vs).1 h5,h6⟩⟩,
   λ⟨ad,h1,h2⟩=>⟨ad,h1,h2.imp id λ⟨b,h3,h4,vs,h5,h6⟩=>⟨b,h3,h4,vs,(mi cs vs).2 h5,h6⟩⟩⟩
 | .cZ cs off,v=>by
  simp only [ep,rel]
  exact ⟨λ⟨b,h1,vs,h2,h3⟩=>⟨b,h1,vs,(mi cs vs).1 h2,h3⟩,λ⟨b,h1,vs,h2,h3⟩=>⟨b,h1,vs,(mi cs vs).2 h2,h3⟩⟩
 | .fn f x y,v=>by
  simp only [ep,rel]
  exact ⟨λ⟨fs,cs,h1,h2,h3⟩=>⟨fs,cs,h1,(mi x fs).1 h2,(mi y cs).1 h3⟩,λ⟨fs,cs,h1,h2,h3⟩=>⟨fs,cs,h1,(mi x fs).2 h2,(mi y cs).2 h3⟩⟩
 | .kV t x,v=>by
  simp only [ep,rel]
  exact ⟨λ⟨y,h1,h2⟩=>⟨y,h1,(xu x y).1 h2⟩,λ⟨y,h1,h2⟩=>⟨y,h1,(xu x y).2 h2⟩⟩
 | .sl sz c xs,v=>by
  rw [ep]
  constructor<;>intro h<;>refine nS _ _ ?_ h<;>(simp only [rel,LF] at h ⊢;exact h.2)
 | .fu sz c xs,v=>by
  rw [ep]
  constructor<;>intro h<;>refine nS _ _ ?_ h<;>(simp only [rel,LF] at h ⊢;exact h.2)
 | .mp j c m,v=>by
  rw [ep]
  constructor<;>intro h<;>refine nS _ _ ?_ h<;>(simp only [rel,LF] at h ⊢;exact h.2)
 | .opt p x,v=>by
  rw [ep]
  constructor<;>intro h<;>refine nS _ _ ?_ h<;>(simp only [rel,LF] at h ⊢;exact h.2)
 | .fm m,v=>by simp only [ep,rel]
 | .fE m,v=>by simp only [ep,rel]
 | .any,v=>by simp only [ep,rel]
 | .cell,v=>by simp only [ep,rel]
 | .bc c,v=>by simp only [ep,rel]
 | .b x,v=>by simp only [ep,rel]
 | .nb d p,v=>by simp only [ep,rel]
 | .ic k x,v=>by simp only [ep,rel]
 | .i k x,v=>by simp only [ep,rel]
 | .str x,v=>by simp only [ep,rel]
 | .v x,v=>by simp only [ep,rel]
 | .cD,v=>by simp only [ep,rel]
theorem mi {q:Nat->Live} {g:Nat->Nat}:∀(x:List SV) (v:List Value),aK η q H (oL g x) v↔aK (λl=>η (g l)) (λl=>q (g l)) H x v
 | [],v=>by simp only [oL,aK]
 | x :: r,v=>by
  simp only [oL,aK]
  exact ⟨λ⟨u,us,h1,h2,h3⟩=>⟨u,us,h1,(xu x u).1 h2,(mi r us).1 h3⟩,λ⟨u,us,h1,h2,h3⟩=>⟨u,us,h1,(xu x u).2 h2,(mi r us).2 h3⟩⟩
end
theorem rv (g:Nat->Nat) (x:Slot):(nN g x).live=x.live:=by cases x<;>rfl
theorem RO {q:Nat->Live} {g:Nat->Nat} {l:Nat} {x:Slot}:iU η q H w (g l) (nN g x)↔iU (λl=>η (g l)) (λl=>q (g l)) H w l x:=by
 cases x with
 | un=>exact vu
 | dead=>exact vu
 | fix e cs =>
  simp only [nN,iU]
  exact ⟨λ⟨bl,vs,h1,h2,h3⟩=>⟨bl,vs,h1,h2,(mi cs _).1 h3⟩,λ⟨bl,vs,h1,h2,h3⟩=>⟨bl,vs,h1,h2,(mi cs _).2 h3⟩⟩
 | dyn e sz c xs=>exact vu
 | map k c m=>exact vu
 | iter k c m seen cur=>exact vu
 | dK ts ps dW body st =>
  simp only [nN,iU]
  exact ⟨λ⟨bl,fn,tmps,d,h1,h2,h3⟩=>⟨bl,fn,tmps,d,h1,h2,(mi ts _).1 h3⟩,λ⟨bl,fn,tmps,d,h1,h2,h3⟩=>⟨bl,fn,tmps,d,h1,h2,(mi ts _).2 h3⟩⟩
theorem iU.IM {η η':Nat->Value} {q q':Nat->Live} {H:aV} {w:World} {l:Nat} {x:Slot} (h:iU η q H w l x) (ht:gP η η' q q') (he:x.live=.live->η' l=η l):iU η' q' H w l x:=by
 cases hx:x.live with
 | live=>exact h.kept ht (aV.le.refl _) (he hx) λ_ _=>rfl
 | _=>cases x<;>first|trivial|cases hx
structure nU:Type 1 where
 α:Type
 args:α->List SV
 io:α->List Slot
 pre:α->Prop
 β:Type
 post:α->β->Prop
 mv:List Nat
 res:α->β->SV
 kZ:α->β->List Slot
def fb (j:Nat):List Nat->Bool
 | []=>false
 | x :: r=>Nat.beq j x||fb j r
theorem vv {j:Nat}:∀{l:List Nat},fb j l=true↔j∈l
 | []=>by simp [fb]
 | x :: r=>by simp [fb,yU,vv]
def nZ (j:Nat):Slot->SV
 | .fix _ _=>.ptr j 0
 | .dyn ..=>.own j
 | .map ..=>.fm j
 | .iter ..=>.ptr j 0
 | .dK ..=>.fE j
 | _=>.any
def pX (v:Value):Slot->Value
 | .dK ..=>match v with
  | .pointer (some a)=>.func (.yield a.block) #[] #[]
  | _=>.nilIface
 | _=>v
def pb (mv:List Nat):Nat->List Slot->List SV
 | _,[]=>[]
 | j,x :: r=>(match fb j mv with|true=>.any|false=>nZ j x) :: pb mv (j+1) r
def vS (η:Nat->Value):Nat->List Slot->List Value
 | _,[]=>[]
 | j,x :: r=>pX (η j) x :: vS η (j+1) r
theorem afl {q:Nat->Live} {l:Nat} {x:Slot} (h:iU η q H w l x) (hq:q l=x.live):rel η q H (nZ l x) (pX (η l) x):=by
 cases x with
 | un=>simp only [nZ,rel]
 | dead=>simp only [nZ,rel]
 | fix e cs =>
  obtain ⟨bl,vs,h1,h2,h3⟩:=h
  simp only [nZ,rel,hq,Slot.live,pX]
  exact ⟨bl,h1,h1⟩
 | dyn e sz c xs =>
  obtain ⟨vals,h1,_⟩:=h
  obtain ⟨ad,cp,h2,_⟩:=h1.slice
  simp only [nZ,rel,hq,Slot.live,pX]
  exact ⟨trivial,_,_,_,h2⟩
 | map k c m =>
  obtain ⟨r,es,clock,h1,_⟩:=h
  simp only [nZ,rel,hq,Slot.live,pX]
  exact ⟨trivial,_,h1⟩
 | iter k c m seen cur =>
  obtain ⟨bl,h1,_⟩:=h
  simp only [nZ,rel,hq,Slot.live,pX]
  exact ⟨bl,h1,h1⟩
 | dK ts ps dW body st =>
  obtain ⟨bl,fn,tmps,d,h1,_⟩:=h
  simp only [nZ,rel,hq,Slot.live,pX,h1]
  exact ⟨bl,rfl,rfl⟩
theorem afm {η':Nat->Value} {q q':Nat->Live} {H':aV} {w:World} {l:Nat} {x:Slot} (hx:x.live=.live) (h:iU η q H w l x) (hq:q' l=.live) (hr:rel η' q' H' (nZ l x) (pX (η l) x)):η' l=η l:=by
 cases x with
 | un=>cases hx
 | dead=>cases hx
 | fix e cs =>
  simp only [nZ,rel,hq,pX] at hr
  obtain ⟨bl,h1,h2⟩:=hr
  exact h1.trans h2.symm
 | dyn e sz c xs =>
  simp only [nZ,rel,hq,pX] at hr
  exact hr.1.symm
 | map k c m =>
  simp only [nZ,rel,hq,pX] at hr
  exact hr.1.symm
 | iter k c m seen cur =>
  simp only [nZ,rel,hq,pX] at hr
  obtain ⟨bl,h1,h2⟩:=hr
  exact h1.trans h2.symm
 | dK ts ps dW body st =>
  obtain ⟨bl,fn,tmps,d,h1,_⟩:=h
  simp only [nZ,rel,hq,pX,h1] at hr
  obtain ⟨jC,h2,h3⟩:=hr
  simp at h3
  subst h3
  rw [h1,h2]
theorem Uo {q:Nat->Live} (mv:List Nat):∀(b:List Slot) (j:Nat),(∀(l:Nat) (x:Slot),b[l]?=some x->iU η q H w (j+l) x/\q (j+l)=x.live)->aK η q H (pb mv j b) (vS η j b)
 | [],_,_=>by simp [pb,vS,aK]
 | x :: r,j,h=>by
  simp only [pb,vS,aK]
  refine ⟨_,_,rfl,?_,Uo mv r (j+1) λl y hy=>?_⟩
  ·have:=h 0 x rfl
   simp only [rF] at this
   split
   ·simp only [rel]
   ·exact afl this.1 this.2
  ·have:=h (l+1) y (by simpa using hy)
   rwa [show j+1+l=j+(l+1) by omega]
theorem TC (η:Nat->Value) (mv:List Nat):∀(b:List Slot) (j l:Nat) (x:Slot),b[l]?=some x->fb (j+l) mv=false->(pb mv j b)[l]?=some (nZ (j+l) x)/\(vS η j b)[l]?=some (pX (η (j+l)) x)
 | [],_,l,x,h,_=>by simp at h
 | y :: r,j,0,x,h,he=>by
  simp at h
  subst h
  simp only [rF] at he
  simp [pb,vS,he]
 | y :: r,j,l+1,x,h,he=>by
  have:=TC η mv r (j+1) l x (by simpa using h) (by rwa [show j+1+l=j+(l+1) by omega])
  rw [show j+1+l=j+(l+1) by omega] at this
  simpa [pb,vS] using this
def sd:List Nat->St->St
 | [],s=>s
 | m :: r,s=>match s.b[m]? with
  | some x=>match x.live with
   | .live=>sd r (s.freeze m)
   | _=>sd r s
  | none=>sd r s
theorem Den.sd:∀(r:List Nat) {s:St} {H:aV},Den f s η H a w->∃H',Den f (sd r s) η H' a w
 | [],s,H,D=>⟨H,D⟩
 | m :: r,s,H,D=>by
  unfold Vc.sd
  split
  ·rename_i x hx
   split
   ·rename_i hl
    obtain ⟨H1,D1⟩:=D.freeze hx hl
    exact Den.sd r D1
   ·exact Den.sd r D
  ·exact Den.sd r D
def Yq (Sp:nU) (a:Sp.α) (b:List Slot) (v:SV):Prop :=
 ∃(y:Sp.β) (fr:List Nat) (own:List (Place × Nat)),oQ (fit (pb Sp.mv 0 (Sp.io a)) (Sp.io a).length own (sd fr ⟨[v],b⟩)).t [Sp.res a y] /\
  lJ (fit (pb Sp.mv 0 (Sp.io a)) (Sp.io a).length own (sd fr ⟨[v],b⟩)).b (Sp.kZ a y)/\vV (λ_=>Sp.post a y)
structure lW (P:Unit->Program) (fid:FuncId) (Sp:nU):Prop where
 len:∀a y,(Sp.kZ a y).length=(Sp.io a).length
 old:∀a (j:Nat) (z:Slot),(Sp.io a)[j]?=some z->fb j Sp.mv=false->z.live=.live
 nu:∀a y (j:Nat),(Sp.kZ a y)[j]?≠some .un
 mv:Sp.mv.Nodup/\∀a,∀j∈Sp.mv,j < (Sp.io a).length
 run:∀a,Sp.pre a->iW (pb Sp.mv 0 (Sp.io a)) P fid (Sp.args a) (Sp.io a) (Yq Sp a)
def tL (L:List Nat) (d j:Nat):Nat:=match L[j]? with
 | some l=>l
 | none=>d
def rT (g:Nat->Nat) (sk:Nat->Bool):Nat->List Slot->List Slot->List Slot
 | _,[],b=>b
 | j,x :: r,b=>rT g sk (j+1) r (match sk j with|true=>b|false=>b.set (g j) (nN g x))
def xC (g:Nat->Nat):List Nat->List Slot->List Slot
 | [],b=>b
 | j :: r,b=>xC g r (b.set (g j) .dead)
def B1 (j:Nat):List Nat->Nat
 | []=>0
 | x :: r=>match Nat.beq j x with
  | true=>0
  | false=>B1 j r+1
def zT:List Slot->List Nat->Nat->List Nat->Bool
 | [],[],_,_=>true
 | x :: r,l :: ls,n,seen=>(match Nat.blt l n with
  | true=>!fb l seen
  | false=>match x with|.dead=>true|_=>false)&&zT r ls n (l :: seen)
 | _,_,_,_=>false
def zU (n:Nat) (L mv:List Nat) (j:Nat):Nat:=match fb j mv with
 | true=>n+B1 j mv
 | false=>tL L (n+mv.length) j
def zm (g:Nat->Nat) (bs:List Slot):List Nat->List Slot
 | []=>[]
 | j :: r=>(match bs[j]? with|some x=>nN g x|none=>.dead) :: zm g bs r
def Mz (b:List Slot) (L mv:List Nat) (bs:List Slot):List Slot :=
 rT (zU b.length L mv) (λj=>fb j mv) 0 bs (xC (tL L b.length) mv b)++zm (zU b.length L mv) bs mv
theorem DU {j:Nat}:∀{l:List Nat},fb j l=true->l[B1 j l]?=some j
 | [],h=>by simp [fb] at h
 | x :: r,h=>by
  simp only [fb,oz] at h
  unfold B1
  split
  ·rename_i e
   rw [lP e];rfl
  ·rename_i e
   rw [e] at h
   simp only [mT,false_or] at h
   simpa using DU h
theorem aeq {l:List Nat} (hn:l.Nodup) {i j:Nat} (h:l[i]?=some j):B1 j l=i:=by
 have hm:fb j l=true:=vv.2 (cL h)
 have h1:=DU hm
 have l1:=(bq.1 h1)
 have l2:=(bq.1 h)
 obtain ⟨a1,a2⟩:=l1
 obtain ⟨b1,b2⟩:=l2
 exact (List.getElem_inj hn).1 (a2.trans b2.symm)
theorem KF (g:Nat->Nat) (sk:Nat->Bool):∀(bs:List Slot) (j:Nat) (b:List Slot),(rT g sk j bs b).length=b.length
 | [],_,_=>rfl
 | x :: r,j,b=>by
  rw [rT,KF g sk r]
  split<;>simp
theorem QO (g:Nat->Nat):∀(mv:List Nat) (b:List Slot),(xC g mv b).length=b.length
 | [],_=>rfl
 | j :: r,b=>by rw [xC,QO g r];simp
theorem QP (g:Nat->Nat) (bs:List Slot):∀mv:List Nat,(zm g bs mv).length=mv.length
 | []=>rfl
 | j :: r=>by simp [zm,QP g bs r]
theorem RP (g:Nat->Nat) (bs:List Slot):∀(mv:List Nat) (i j:Nat),mv[i]?=some j->(zm g bs mv)[i]?=some (match bs[j]? with|some x=>nN g x|none=>.dead)
 | [],i,j,h=>by simp at h
 | k :: r,0,j,h=>by simp at h;subst h;rfl
 | k :: r,i+1,j,h=>by simpa [zm] using RP g bs r i j (by simpa using h)
theorem KW (g:Nat->Nat):∀(mv:List Nat) (b:List Slot) (l:Nat),l < b.length->(xC g mv b)[l]?=if mv.any (λj=>Nat.beq (g j) l) then some .dead else b[l]?
 | [],b,l,_=>by simp [xC]
 | j :: r,b,l,hl=>by
  rw [xC,KW g r _ l (by simpa using hl)]
  by_cases h1:r.any (λj=>Nat.beq (g j) l)=true
  ·simp [h1]
  ·simp only [h1,List.any_cons]
   by_cases h2:g j=l
   ·subst h2;simp [hl]
   ·have:Nat.beq (g j) l=false:=by rw [<-Bool.not_eq_true,yU];exact h2
    simp [this,fQ h2]
theorem LO (g:Nat->Nat) (sk:Nat->Bool):∀(bs:List Slot) (j:Nat) (b:List Slot) (l:Nat),l < b.length ->
  (∀i i',i < bs.length->i' < bs.length->sk (j+i)=false->sk (j+i')=false->g (j+i)=l->g (j+i')=l->i=i') ->
  (rT g sk j bs b)[l]?=match (List.range bs.length).find? (λi=>!sk (j+i)&&Nat.beq (g (j+i)) l) with
   | some i=>(bs[i]?).map (nN g)
   | none=>b[l]?
 | [],j,b,l,_,_=>by simp [rT]
 | x :: r,j,b,l,hl,hd=>by
  have js:l < (match sk j with|true=>b|false=>b.set (g j) (nN g x)).length:=by split<;>simpa using hl
  have e:∀i,j+1+i=j+(i+1):=λi=>by omega
  rw [rT,LO g sk r (j+1) _ l js (λi i' h1 h2 h3 h4 h5 h6=>by
   rw [e] at h3 h5
   rw [e] at h4 h6
   have:=hd (i+1) (i'+1) (by simpa using h1) (by simpa using h2) h3 h4 h5 h6
   omega)]
  rw [oy,List.range_succ_eq_map,List.find?_cons,List.find?_map]
  simp only [rF,e]
  by_cases h0:(!sk j&&Nat.beq (g j) l)=true
  ·simp only [h0]
   simp only [cf,nK,yU] at h0
   have Nd:(List.range r.length).find? (λi=>!sk (j+(i+1))&&Nat.beq (g (j+(i+1))) l)=none:=by
    rw [Lj]
    intro i hi hc
    simp only [cf,nK,yU] at hc
    have:=hd 0 (i+1) (by simp) (by simpa using hi) (by simpa using h0.1) hc.1 (by simpa using h0.2) hc.2
    omega
   rw [Nd]
   simp only [h0.1]
   rw [<-h0.2,nH (by rw [h0.2];exact hl)]
   rfl
  ·have pr:(!sk j&&Nat.beq (g j) l)=false:=by cases hq:(!sk j&&Nat.beq (g j) l) with|false=>rfl|true=>exact absurd hq h0
   simp only [pr,G6]
   have hb:(match sk j with|true=>b|false=>b.set (g j) (nN g x))[l]?=b[l]?:=by
    cases hs:sk j with
    | true=>rfl
    | false =>
     rw [hs] at pr
     simp only [Bool.not_false,Dy] at pr
     exact fQ (λe=>by rw [e] at pr;simp at pr)
   rw [hb]
   cases (List.range r.length).find? (λi=>!sk (j+(i+1))&&Nat.beq (g (j+(i+1))) l) with
   | none=>rfl
   | some i=>simp
theorem Mg:∀xs:List SV,oQ xs xs
 | []=>trivial
 | x :: r=>by
  simp only [oQ]
  split
  ·exact Mg r
  ·exact ⟨.refl _,Mg r⟩
theorem SF:∀{io:List Slot} {L:List Nat} {n:Nat} {seen:List Nat},zT io L n seen=true->L.length=io.length /\
  (∀(i:Nat) (x:Slot) (l:Nat),io[i]?=some x->L[i]?=some l->l < n\/x=.dead)/\(∀(i l:Nat),L[i]?=some l->l < n->l∉seen) /\
  (∀(i i' l:Nat),L[i]?=some l->L[i']?=some l->l < n->i=i')
 | [],[],n,seen,_=>by simp
 | [],_ :: _,_,_,h=>by simp [zT] at h
 | _ :: _,[],_,_,h=>by simp [zT] at h
 | x :: r,l :: ls,n,seen,h=>by
  simp only [zT,cf] at h
  obtain ⟨h1,h2⟩:=h
  obtain ⟨g1,g2,g3,g4⟩:=SF h2
  have x9:(l < n->l∉seen)/\(l < n\/x=.dead):=by
   split at h1
   ·rename_i e
    have:l < n:=Bj e
    simp only [nK,<-Bool.not_eq_true,vv] at h1
    exact ⟨λ_=>h1,.inl this⟩
   ·rename_i e
    have e:¬l < n:=λh=>by
     have:=sY h
     unfold Nat.blt at e
     rw [this] at e
     cases e
    refine ⟨λh=>absurd h e,.inr ?_⟩
    split at h1
    ·rfl
    ·cases h1
  refine ⟨by simp [g1],?_,?_,?_⟩
  ·intro i y l' hy hl
   cases i with
   | zero=>simp at hy hl;subst hy hl;exact x9.2
   | succ i=>exact g2 i y l' (by simpa using hy) (by simpa using hl)
  ·intro i l' hl hn
   cases i with
   | zero=>simp at hl;subst hl;exact x9.1 hn
   | succ i=>exact λhm=>g3 i l' (by simpa using hl) hn (rD _ hm)
  ·intro i i' l' hi jY hn
   cases i with
   | zero =>
    simp at hi;subst hi
    cases i' with
    | zero=>rfl
    | succ i'=>exact absurd (Lk) (g3 i' l (by simpa using jY) hn)
   | succ i =>
    cases i' with
    | zero=>simp at jY;subst jY;exact absurd (Lk) (g3 i l (by simpa using hi) hn)
    | succ i'=>rw [g4 i i' l' (by simpa using hi) (by simpa using jY) hn]
theorem Up (mv:List Nat):∀(b:List Slot) (j m:Nat),j+b.length<=m->kT (Nat.ble m) (pb mv j b)=false
 | [],_,_,_=>rfl
 | x :: r,j,m,h=>by
  simp only [pb,kT,Up mv r (j+1) m (by simp at h;omega),Bool.or_false]
  have hj:Nat.ble m j=false:=by
   cases e:Nat.ble m j with
   | false=>rfl
   | true=>have:=Bj e;simp at h;omega
  split
  ·rfl
  ·cases x<;>simp [nZ,iD,hj]
theorem Uq {L:List Nat} {d j l:Nat} (h:L[j]?=some l):tL L d j=l:=by unfold tL;rw [h]
theorem Ur {L:List Nat} {d j:Nat} (h:L[j]?=none):tL L d j=d:=by unfold tL;rw [h]
theorem iW.io {P:Unit->Program} {fid:FuncId} {Sp:nU} (I:lW P fid Sp) {S args:List SV} {b:List Slot} {k:List Slot->SV->Prop} (a:Sp.α) (L:List Nat)
  (iZ:zT (Sp.io a) L b.length []=true) (lu:cH args (oL (tL L b.length) (Sp.args a))) (Pg:lJ b (rT (tL L b.length) (λ_=>false) 0 (Sp.io a) b))
  (dL:vV λ_=>Sp.pre a) (hk:∀y,Hyp (λ_=>Sp.post a y)->k (Mz b L Sp.mv (Sp.kZ a y)) (ep (zU b.length L Sp.mv) (Sp.res a y))):iW S P fid args b k:=by
 refine ⟨λf η H ac w hS hd D=>?_⟩
 obtain ⟨hlen,aQ,_,IJ⟩:=SF iZ
 let io:=Sp.io a
 let n:=b.length
 let σ:=tL L n
 let b1:=rT σ (λ_=>false) 0 io b
 have pq:b1.length=n:=KF _ _ _ _ _
 have D1:Den f ⟨args,b1⟩ η H ac w:=D.weaken ⟨Mg _,Pg⟩
 have σL:∀i,i < io.length->∃l,L[i]?=some l/\σ i=l:=λi hi=>⟨_,eB (by rw [hlen];exact hi),Uq (eB (by rw [hlen];exact hi))⟩
 have aib:∀i,io.length<=i->σ i=n:=λi hi=>Ur (ox (by rw [hlen];exact hi))
 have B2:∀i i' l,i < io.length->i' < io.length->σ i=l->σ i'=l->l < n->i=i':=by
  intro i i' l h1 h2 h3 h4 h5
  obtain ⟨l1,a1,a2⟩:=σL i h1
  obtain ⟨l2,c1,c2⟩:=σL i' h2
  exact IJ i i' l (by rw [a1,<-a2,h3]) (by rw [c1,<-c2,h4]) h5
 have Cx:∀i x,io[i]?=some x->σ i < n\/x=.dead:=by
  intro i x hx
  obtain ⟨l,a1,a2⟩:=σL i (bq.1 hx).1
  rw [a2];exact aQ i x l hx a1
 have W6:∀l,l < n->b1[l]?=match (List.range io.length).find? (λi=>Nat.beq (σ i) l) with
   | some i=>(io[i]?).map (nN σ)
   | none=>b[l]?:=by
  intro l hl
  have:=LO σ (λ_=>false) io 0 b l hl (λi i' h1 h2 _ _ h3 h4=>by
   simp only [mU] at h3 h4
   exact B2 i i' l h1 h2 h3 h4 hl)
  simpa using this
 have find:∀i l,i < io.length->σ i=l->l < n->(List.range io.length).find? (λi=>Nat.beq (σ i) l)=some i:=by
  intro i l h1 h2 h3
  cases hf:(List.range io.length).find? (λi=>Nat.beq (σ i) l) with
  | none =>
   rw [Lj] at hf
   exact absurd (by simpa using h2) (hf i (by simpa using h1))
  | some i' =>
   have g1:=Hd hf
   have g2:=GZ hf
   simp at g1 g2
   rw [B2 i i' l h1 g2 h2 g1 h3]
 have FC:∀i x,io[i]?=some x->σ i < n->b1[σ i]?=some (nN σ x):=by
  intro i x hx hl
  rw [W6 _ hl,find i _ (bq.1 hx).1 rfl hl]
  simp only [hx]
  rfl
 have q1:∀i,Live.un=aP b1 (σ i)\/aP io i=aP b1 (σ i)\/aP io i=.dead:=by
  intro i
  cases hx:io[i]? with
  | none =>
   left
   rw [aib i (by simpa using hx)]
   simp [aP,pq]
  | some x =>
   rcases Cx i x hx with h|h
   ·right;left
    rw [bR (FC i x hx h),bR hx,rv]
   ·right;right
    rw [bR hx,h];rfl
 have Er:∀i,aP io i=.live->σ i < n/\i < io.length:=by
  intro i h
  obtain ⟨x,hx,hl⟩:=qI h
  rcases Cx i x hx with h|h
  ·exact ⟨h,(bq.1 hx).1⟩
  ·rw [h] at hl;cases hl
 let η':Nat->Value:=λi=>η (σ i)
 have T1:gP η' η' (λi=>aP b1 (σ i)) (aP io):=by
  intro i
  rcases q1 i with h|h|h
  ·show match aP b1 (σ i) with|.un=>True|.dead=>_|.live=>_
   rw [<-h];trivial
  ·show match aP b1 (σ i) with|.un=>True|.dead=>_|.live=>_
   rw [<-h]
   cases hq:aP io i<;>simp
  ·show match aP b1 (σ i) with|.un=>True|.dead=>_|.live=>_
   cases hq:aP b1 (σ i)<;>simp [h]
 have NW:∀(i:Nat) (x:Slot),io[i]?=some x->iU η' (aP io) H w i x:=by
  intro i x hx
  rcases Cx i x hx with h|h
  ·exact (RO.1 (D1.sl _ _ (FC i x hx h))).IM T1 λ_=>rfl
  ·rw [h];trivial
 let F':aV:=λbl=>@ite _ (∃l,aP b1 l=.live/\(∀i,i < io.length->σ i≠l)/\bS (η l)=some bl) (Classical.propDecidable _) (w.heap[bl]?) (f.F bl)
 have No:∀bl o,f.F bl=some o->F' bl=some o:=by
  intro bl o h
  simp only [F']
  split
  ·rename_i hc
   obtain ⟨l,h1,_,h2⟩:=hc
   rw [(D1.dh l bl h1 h2).2] at h
   cases h
  ·exact h
 have agU:∀l bl,aP b1 l=.live->(∀i,i < io.length->σ i≠l)->bS (η l)=some bl->F' bl=w.heap[bl]?:=by
  intro l bl h1 h2 h3
  simp only [F']
  rw [if_pos ⟨l,h1,h2,h3⟩]
 have aic:∀i bl,aP io i=.live->bS (η' i)=some bl->F' bl=f.F bl:=by
  intro i bl h1 h2
  simp only [F']
  rw [if_neg]
  rintro ⟨l,g1,g2,g3⟩
  obtain ⟨h3,h4⟩:=Er i h1
  have hq:aP b1 (σ i)=.live:=by
   rcases q1 i with h|h|h
   ·obtain ⟨x,hx,hl⟩:=qI h1
    rw [bR (FC i x hx h3),rv,hl]
   ·rw [<-h];exact h1
   ·rw [h1] at h;cases h
  exact g2 i h4 (D1.dj (σ i) l bl hq g1 h2 g3)
 have qV:∀i,aP io i=.live->aP b1 (σ i)=.live:=by
  intro i h1
  obtain ⟨h3,h4⟩:=Er i h1
  obtain ⟨x,hx,hl⟩:=qI h1
  rw [bR (FC i x hx h3),rv,hl]
 let f':Fr:={ F:=F',H0:=H,w0:=w,sS:=pb Sp.mv 0 io,sV:=vS η' 0 io,dS:=[] }
 have afn:aK η' (aP io) H (Sp.args a) ac.tmps.toList:=gi T1 (aV.le.refl H) _ _ ((mi _ _).1 (iL lu D1.t))
 have D':Den f' ⟨Sp.args a,io⟩ η' H ⟨ac.tmps,[]⟩ w:={
  t:=afn
  sv:=Uo Sp.mv io 0 λl x hx=>by
   rw [mU]
   exact ⟨NW l x hx,bR hx⟩
  d:=rfl
  h0:=aV.le.refl H
  hw:=D1.hw
  fw:=λbl o h=>by
   simp only [f',F'] at h
   split at h
   ·exact h
   ·exact D1.fw bl o h
  hf:=λbl h=>.inl h
  sl:=λl x hx=>NW l x hx
  dj:=λl l' bl h1 h2 h3 h4=>by
   have:=D1.dj (σ l) (σ l') bl (qV l h1) (qV l' h2) h3 h4
   exact B2 l l' _ (Er l h1).2 (Er l' h2).2 rfl this.symm (Er l h1).1
  dh:=λl bl h1 h2=>⟨(D1.dh (σ l) bl (qV l h1) h2).1,(aic l bl h1 h2).trans (D1.dh (σ l) bl (qV l h1) h2).2⟩
  os:=rfl
  tape:=rfl
  out:=rfl }
 refine ((I.run a dL.out).out f' η' H ⟨ac.tmps,[]⟩ w rfl rfl D').mono ?_
 rintro e w' ⟨v,b2,η2,H2,xv,rfl,⟨y,fr,own,k1,k2,k3⟩,D2,r2⟩
 have D2v:Den f' ⟨[xv],b2⟩ η2 H2 ⟨#[v],[]⟩ w':={ D2 with t:=by simp only [aK];exact ⟨v,[],rfl,r2,rfl⟩ }
 obtain ⟨H3,D3⟩:=Den.sd fr D2v
 obtain ⟨η3,D4⟩:=D3.sa (S:=pb Sp.mv 0 io) rfl own
 have NX:kT (Nat.ble io.length) f'.sS=false:=Up Sp.mv io 0 io.length (by omega)
 have D5:Den f' ⟨[Sp.res a y],Sp.kZ a y⟩ η3 H3 ⟨#[v],[]⟩ w':=(D4.cut io.length NX).weaken ⟨k1,k2⟩
 let bs:=Sp.kZ a y
 have jd:bs.length=io.length:=I.len a y
 let g:=zU n L Sp.mv
 have EN:∀(i:Nat) (x:Slot),bs[i]?=some x->fb i Sp.mv=false->∃z,io[i]?=some z/\z.live=.live:=λi x hx hm =>
  ⟨_,eB (by rw [<-jd];exact (bq.1 hx).1),I.old a i _ (eB (by rw [<-jd];exact (bq.1 hx).1)) hm⟩
 have gN:∀i,fb i Sp.mv=true->g i=n+B1 i Sp.mv:=λi h=>by simp only [g,zU,h]
 have gO:∀i,fb i Sp.mv=false->i < io.length->g i=σ i:=λi h hi=>by
  obtain ⟨l,a1,a2⟩:=σL i hi
  simp only [g,zU,h]
  rw [a2];exact Uq a1
 have gX:∀i,fb i Sp.mv=false->io.length<=i->g i=n+Sp.mv.length:=λi h hi=>by
  simp only [g,zU,h]
  exact Ur (ox (by rw [hlen];exact hi))
 have Ip:∀i,fb i Sp.mv=true->i < io.length:=λi h=>I.mv.2 a i (vv.1 h)
 let bk:=xC σ Sp.mv b
 have JC:bk.length=n:=QO _ _ _
 let bn:=Mz b L Sp.mv bs
 have Ph:bn=rT g (λj=>fb j Sp.mv) 0 bs bk++zm g bs Sp.mv:=rfl
 have IU:(rT g (λj=>fb j Sp.mv) 0 bs bk).length=n:=by rw [KF,JC]
 have W7:∀l,l < n->bn[l]?=match (List.range bs.length).find? (λi=>!fb i Sp.mv&&Nat.beq (g i) l) with
   | some i=>(bs[i]?).map (nN g)
   | none=>bk[l]?:=by
  intro l hl
  rw [Ph,iu (by rw [IU];exact hl)]
  have:=LO g (λj=>fb j Sp.mv) bs 0 bk l (by rw [JC];exact hl) (λi i' h1 h2 h3 h4 h5 h6=>by
   simp only [mU] at h3 h4 h5 h6
   rw [jd] at h1 h2
   rw [gO i h3 h1] at h5
   rw [gO i' h4 h2] at h6
   exact B2 i i' l h1 h2 h5 h6 hl)
  simpa using this
 have EO:∀i,i < io.length->σ i < n->fb i Sp.mv=false->bn[σ i]?=(bs[i]?).map (nN g):=by
  intro i hi hl hm
  rw [W7 _ hl]
  cases hf:(List.range bs.length).find? (λj=>!fb j Sp.mv&&Nat.beq (g j) (σ i)) with
  | none =>
   rw [Lj] at hf
   have:=hf i (by rw [lR,jd];exact hi)
   rw [hm,gO i hm hi] at this
   simp at this
  | some i' =>
   have g1:=Hd hf
   have g2:=GZ hf
   simp only [cf,nK,yU,lR,jd] at g1 g2
   have e:=g1.2
   rw [gO i' g1.1 g2] at e
   rw [B2 i' i (σ i) g2 hi e rfl hl]
 have We:∀l,l < n->(∀i,i < io.length->fb i Sp.mv=false->σ i≠l)->bn[l]?=bk[l]?:=by
  intro l hl du
  rw [W7 _ hl]
  cases hf:(List.range bs.length).find? (λj=>!fb j Sp.mv&&Nat.beq (g j) l) with
  | none=>rfl
  | some i' =>
   have g1:=Hd hf
   have g2:=GZ hf
   simp only [cf,nK,yU,lR,jd] at g1 g2
   have e:=g1.2
   rw [gO i' g1.1 g2] at e
   exact absurd e (du i' g2 g1.1)
 have NY:∀i,σ i < n->fb i Sp.mv=true->bn[σ i]?=some .dead:=by
  intro i hl hm
  rw [We _ hl,KW σ Sp.mv b _ hl,if_pos]
  ·rw [G9];exact ⟨i,vv.1 hm,by simp⟩
  ·intro i' h1 h2 h3
   rw [B2 i' i _ h1 (Ip i hm) h3 rfl hl,hm] at h2
   cases h2
 have NZ:∀l,l < n->(∀i,i < io.length->σ i≠l)->bn[l]?=b1[l]?:=by
  intro l hl du
  rw [We l hl λi h1 _=>du i h1,KW σ Sp.mv b _ hl,if_neg,W6 l hl]
  ·cases hf:(List.range io.length).find? (λi=>Nat.beq (σ i) l) with
   | none=>rfl
   | some i' =>
    have g1:=Hd hf
    have g2:=GZ hf
    simp at g1 g2
    exact absurd g1 (du i' g2)
  ·intro h
   rw [G9] at h
   obtain ⟨i,h1,h2⟩:=h
   exact du i (Ip i (vv.2 h1)) (lP h2)
 have MR:∀i j,Sp.mv[i]?=some j->bn[n+i]?=(bs[j]?).map (nN g):=by
  intro i j h
  have hj:j < bs.length:=by rw [jd];exact Ip j (vv.2 (cL h))
  rw [Ph,pI (by rw [IU];omega),IU,K6,RP g bs Sp.mv i j h,eB hj]
  rfl
 have aid:bn.length=n+Sp.mv.length:=by rw [Ph,fJ,IU,QP]
 have atG:∀i x,bs[i]?=some x->x.live=.live->bn[g i]?=some (nN g x):=by
  intro i x hx hl
  have hi:i < io.length:=by rw [<-jd];exact (bq.1 hx).1
  cases hm:fb i Sp.mv with
  | true=>rw [gN i hm,MR _ _ (DU hm),hx];rfl
  | false =>
   obtain ⟨z,hz,iG⟩:=EN i x hx hm
   have:σ i < n:=by
    rcases Cx i z hz with h|h
    ·exact h
    ·rw [h] at iG;cases iG
   rw [gO i hm hi,EO i hi this hm,hx];rfl
 let ηn:Nat->Value:=λl=>if l < n then η l else match Sp.mv[l - n]? with
  | some j=>η3 j
  | none=>.nilIface
 have aie:∀i x,bs[i]?=some x->x.live=.live->fb i Sp.mv=false->η3 i=η' i:=by
  intro i x hx hl hm
  obtain ⟨z,hz,iG⟩:=EN i x hx hm
  obtain ⟨t1,t2⟩:=TC η' Sp.mv io 0 i z hz (by rw [mU];exact hm)
  rw [mU] at t1 t2
  obtain ⟨u,hu,hr⟩:=rG D5.sv i _ t1
  have:(vS η' 0 io)[i]?=some u:=hu
  rw [t2] at this
  simp at this
  subst this
  exact afm iG (NW i z hz) (by rw [bR hx];exact hl) hr
 have ηG:∀i x,bs[i]?=some x->x.live=.live->ηn (g i)=η3 i:=by
  intro i x hx hl
  have hi:i < io.length:=by rw [<-jd];exact (bq.1 hx).1
  cases hm:fb i Sp.mv with
  | true =>
   rw [gN i hm]
   simp only [ηn]
   rw [if_neg (by omega),K6,DU hm]
  | false =>
   obtain ⟨z,hz,iG⟩:=EN i x hx hm
   have aQ:σ i < n:=by
    rcases Cx i z hz with h|h
    ·exact h
    ·rw [h] at iG;cases iG
   rw [gO i hm hi]
   simp only [ηn]
   rw [if_pos aQ]
   exact (aie i x hx hl hm).symm
 have TG:gP η3 (λi=>ηn (g i)) (aP bs) (λi=>aP bn (g i)):=by
  intro i
  cases hq:aP bs i with
  | un=>trivial
  | live =>
   obtain ⟨x,hx,hl⟩:=qI hq
   left
   exact ⟨by show aP bn (g i)=.live;rw [bR (atG i x hx hl),rv,hl],ηG i x hx hl⟩
  | dead =>
   show aP bn (g i)=.dead
   have hx:∃x,bs[i]?=some x/\x.live=.dead:=by
    unfold aP at hq
    split at hq
    ·exact ⟨_,by assumption,hq⟩
    ·cases hq
   obtain ⟨x,hx,hl⟩:=hx
   have hi:i < io.length:=by rw [<-jd];exact (bq.1 hx).1
   cases hm:fb i Sp.mv with
   | true=>rw [gN i hm,bR (by rw [MR _ _ (DU hm),hx];rfl),rv,hl]
   | false =>
    rw [gO i hm hi]
    by_cases aQ:σ i < n
    ·rw [bR (by rw [EO i hi aQ hm,hx];rfl),rv,hl]
    ·obtain ⟨z,hz,iG⟩:=EN i x hx hm
     rcases Cx i z hz with h|h
     ·exact absurd h aQ
     ·rw [h] at iG;cases iG
 have TB:gP η ηn (aP b1) (aP bn):=by
  intro l
  cases hq:aP b1 l with
  | un=>trivial
  | live =>
   obtain ⟨x,hx,hl⟩:=qI hq
   have jF:l < n:=by rw [<-pq];exact (bq.1 hx).1
   by_cases hc:∃i,i < io.length/\σ i=l
   ·obtain ⟨i,hi,rfl⟩:=hc
    cases hm:fb i Sp.mv with
    | true=>right;rw [bR (NY i jF hm)];rfl
    | false =>
     have qQ:bs[i]?=some bs[i]:=eB (by rw [jd];exact hi)
     have e:=EO i hi jF hm
     rw [qQ] at e
     cases hz:(bs[i]).live with
     | un =>
      exfalso
      have:bs[i]=.un:=by cases hy:bs[i]<;>rw [hy] at hz<;>first|rfl|cases hz
      exact I.nu a y i (by rw [<-this];exact qQ)
     | dead=>right;rw [bR e,rv,hz]
     | live =>
      left
      refine ⟨by rw [bR e,rv,hz],?_⟩
      simp only [ηn];rw [if_pos jF]
   ·left
    refine ⟨by rw [bR ((NZ l jF λi hi e=>hc ⟨i,hi,e⟩).trans hx),hl],?_⟩
    simp only [ηn];rw [if_pos jF]
  | dead =>
   show aP bn l=.dead
   have hx:∃x,b1[l]?=some x/\x.live=.dead:=by
    unfold aP at hq
    split at hq
    ·exact ⟨_,by assumption,hq⟩
    ·cases hq
   obtain ⟨x,hx,hl⟩:=hx
   have jF:l < n:=by rw [<-pq];exact (bq.1 hx).1
   by_cases hc:∃i,i < io.length/\σ i=l
   ·obtain ⟨i,hi,rfl⟩:=hc
    cases hm:fb i Sp.mv with
    | true=>rw [bR (NY i jF hm)];rfl
    | false =>
     have qQ:bs[i]?=some bs[i]:=eB (by rw [jd];exact hi)
     have e:=EO i hi jF hm
     rw [qQ] at e
     rw [bR e,rv]
     cases hz:(bs[i]).live with
     | un =>
      exfalso
      have:bs[i]=.un:=by cases hy:bs[i]<;>rw [hy] at hz<;>first|rfl|cases hz
      exact I.nu a y i (by rw [<-this];exact qQ)
     | dead=>rfl
     | live =>
      exfalso
      obtain ⟨z,Pj,iG⟩:=EN i _ qQ hm
      have:=FC i z Pj jF
      rw [hx] at this
      simp at this
      rw [this,rv,iG] at hl
      cases hl
   ·rw [bR ((NZ l jF λi hi e=>hc ⟨i,hi,e⟩).trans hx),hl]
 have cls:∀l x,bn[l]?=some x->x.live=.live->(∃i z,bs[i]?=some z/\z.live=.live/\g i=l/\x=nN g z)\/(l < n/\b1[l]?=some x/\∀i,i < io.length->σ i≠l):=by
  intro l x hx hl
  by_cases jF:l < n
  ·by_cases hc:∃i,i < io.length/\σ i=l
   ·obtain ⟨i,hi,rfl⟩:=hc
    cases hm:fb i Sp.mv with
    | true =>
     rw [NY i jF hm] at hx
     simp at hx;subst hx;cases hl
    | false =>
     left
     have qQ:bs[i]?=some bs[i]:=eB (by rw [jd];exact hi)
     rw [EO i hi jF hm,qQ] at hx
     simp at hx;subst hx
     exact ⟨i,_,qQ,by rw [rv] at hl;exact hl,gO i hm hi,rfl⟩
   ·right
    have du:∀i,i < io.length->σ i≠l:=λi hi e=>hc ⟨i,hi,e⟩
    exact ⟨jF,by rw [<-NZ l jF du];exact hx,du⟩
  ·left
   have nm:=(bq.1 hx).1
   rw [aid] at nm
   obtain ⟨j,hj⟩:∃j,Sp.mv[l - n]?=some j:=⟨_,eB (by omega)⟩
   have e:=MR _ _ hj
   rw [show n+(l - n)=l by omega,hx] at e
   have FD:fb j Sp.mv=true:=vv.2 (cL hj)
   have e7:j < bs.length:=by rw [jd];exact Ip j FD
   have Yr:bs[j]?=some bs[j]:=eB e7
   rw [Yr] at e
   simp at e;subst e
   refine ⟨j,_,Yr,by rw [rv] at hl;exact hl,?_,rfl⟩
   rw [gN j FD,aeq I.mv.1 hj];omega
 have EP:∀i z,bs[i]?=some z->z.live=.live->∀bl,bS (ηn (g i))=some bl->bS (η3 i)=some bl:=λi z h1 h2 bl h=>by rw [ηG i z h1 h2] at h;exact h
 have ER:∀l x,l < n->b1[l]?=some x->x.live=.live->∀bl,bS (ηn l)=some bl->bS (η l)=some bl:=λl x h1 h2 h3 bl h=>by
  simp only [ηn] at h;rw [if_pos h1] at h;exact h
 have others:∀l bl,aP b1 l=.live->(∀i,i < io.length->σ i≠l)->bS (η l)=some bl->∃o,w.heap[bl]?=some o/\F' bl=some o/\w'.heap[bl]?=some o:=by
  intro l bl h1 h2 h3
  have hb:=D1.y9 h1 h3
  have e:=agU l bl h1 h2 h3
  rw [sX hb] at e
  exact ⟨_,sX hb,e,D5.fw bl _ e⟩
 have Dn:Den f ⟨[],bn⟩ ηn H3 ⟨#[],[]⟩ w':={
  t:=by simp [aK]
  sv:=gi TB D5.h0 _ _ D1.sv
  d:=by rw [hd];rfl
  h0:=D1.h0.trans D5.h0
  hw:=D5.hw
  fw:=λbl o h=>D5.fw bl o (No bl o h)
  hf:=λbl h=>by
   rcases D5.hf bl h with h1|h1
   ·exact D1.hf bl h1
   ·right
    cases hF:f.F bl with
    | none=>rfl
    | some o=>have h1:F' bl=none:=h1;rw [No bl o hF] at h1;cases h1
  sl:=λl x hx=>by
   cases hl:x.live with
   | live =>
    rcases cls l x hx hl with ⟨i,z,hz,iG,rfl,rfl⟩|⟨jF,uU,du⟩
    ·refine RO.2 ?_
     exact (D5.sl i z hz).IM TG λ_=>ηG i z hz iG
    ·refine (D1.sl l x uU).kept TB D5.h0 (by simp only [ηn];rw [if_pos jF]) λbl hb=>?_
     obtain ⟨o,h1,_,h2⟩:=others l bl (by rw [bR uU];exact hl) du hb
     rw [h1,h2]
   | un=>cases x<;>first|trivial|cases hl
   | dead=>cases x<;>first|trivial|cases hl
  dj:=λl l' bl h1 h2 h3 h4=>by
   obtain ⟨x,hx,hl⟩:=qI h1
   obtain ⟨x',lF,js⟩:=qI h2
   rcases cls l x hx hl with ⟨i,z,hz,iG,rfl,rfl⟩|⟨jF,uU,du⟩<;>rcases cls l' x' lF js with ⟨i',z',Ah,IV,rfl,rfl⟩|⟨W8,IW,aif⟩
   ·rw [D5.dj i i' bl (by rw [bR hz];exact iG) (by rw [bR Ah];exact IV) (EP i z hz iG bl h3) (EP i' z' Ah IV bl h4)]
   ·exfalso
    obtain ⟨o,_,e,_⟩:=others l' bl (by rw [bR IW];exact js) aif (ER l' x' W8 IW js bl h4)
    have:=(D5.dh i bl (by rw [bR hz];exact iG) (EP i z hz iG bl h3)).2
    have:F' bl=none:=this
    rw [e] at this;cases this
   ·exfalso
    obtain ⟨o,_,e,_⟩:=others l bl (by rw [bR uU];exact hl) du (ER l x jF uU hl bl h3)
    have:=(D5.dh i' bl (by rw [bR Ah];exact IV) (EP i' z' Ah IV bl h4)).2
    have:F' bl=none:=this
    rw [e] at this;cases this
   ·exact D1.dj l l' bl (by rw [bR uU];exact hl) (by rw [bR IW];exact js) (ER l x jF uU hl bl h3) (ER l' x' W8 IW js bl h4)
  dh:=λl bl h1 h2=>by
   obtain ⟨x,hx,hl⟩:=qI h1
   rcases cls l x hx hl with ⟨i,z,hz,iG,rfl,rfl⟩|⟨jF,uU,du⟩
   ·obtain ⟨e1,e2⟩:=D5.dh i bl (by rw [bR hz];exact iG) (EP i z hz iG bl h2)
    refine ⟨e1,?_⟩
    cases hF:f.F bl with
    | none=>rfl
    | some o=>have e2:F' bl=none:=e2;rw [No bl o hF] at e2;cases e2
   ·have hb:=ER l x jF uU hl bl h2
    have hq:aP b1 l=.live:=by rw [bR uU];exact hl
    obtain ⟨o,_,e,_⟩:=others l bl hq du hb
    refine ⟨?_,(D1.dh l bl hq hb).2⟩
    cases hH:H3 bl with
    | none=>rfl
    | some o' =>
     rcases D5.hf bl (by rw [hH];simp) with h|h
     ·exact absurd (D1.dh l bl hq hb).1 h
     ·have h:F' bl=none:=h
      rw [e] at h;cases h
  os:=D5.os.trans D1.os
  tape:=D5.tape.trans D1.tape
  out:=D5.out.trans D1.out }
 have JD:rel ηn (aP bn) H3 (ep g (Sp.res a y)) v:=by
  have:=D5.t
  simp only [aK] at this
  obtain ⟨u,us,e,h1,rfl⟩:=this
  simp at e;subst e
  exact (xu _ _).2 (s5 TG (aV.le.refl _) _ _ h1)
 exact ⟨v,bn,ηn,H3,_,rfl,hk y ⟨k3.out⟩,Dn,JD⟩
def Wf (x:Slot):Bool:=match x.live with
 | .live=>true
 | _=>false
def zV (mv:List Nat):Nat->List Slot->Bool
 | _,[]=>true
 | j,x :: r=>(fb j mv||Wf x)&&zV mv (j+1) r
def Cy:List Slot->Bool
 | []=>true
 | .un :: _=>false
 | _ :: r=>Cy r
def Cz (n:Nat):List Nat->Bool
 | []=>true
 | j :: r=>Nat.blt j n&&!fb j r&&Cz n r
def JE (mv:List Nat) (io kZ:List Slot):Bool:=Nat.beq kZ.length io.length&&zV mv 0 io&&Cy kZ&&Cz io.length mv
theorem Us {mv:List Nat}:∀{io:List Slot} {j0:Nat},zV mv j0 io=true->∀(j:Nat) (z:Slot),io[j]?=some z->fb (j0+j) mv=false->z.live=.live
 | [],_,_,j,z,h,_=>by simp at h
 | x :: r,j0,h,0,z,hz,he=>by
  simp at hz;subst hz
  simp only [zV,cf,oz] at h
  simp only [rF] at he
  rw [he] at h
  have h1:=h.1
  simp only [mT,false_or] at h1
  unfold Wf at h1
  split at h1
  ·assumption
  ·cases h1
 | x :: r,j0,h,j+1,z,hz,he=>by
  simp only [zV,cf] at h
  exact Us h.2 j z (by simpa using hz) (by rw [show j0+1+j=j0+(j+1) by omega];exact he)
theorem U8:∀{io:List Slot},Cy io=true->∀j:Nat,io[j]?≠some .un
 | [],_,j=>by simp
 | x :: r,h,0=>by
  intro e
  simp at e;subst e
  simp [Cy] at h
 | x :: r,h,j+1=>by
  have:Cy r=true:=by cases x<;>first|exact h|simp [Cy] at h
  simpa using U8 this j
theorem U9 {n:Nat}:∀{mv:List Nat},Cz n mv=true->mv.Nodup/\∀j∈mv,j < n
 | [],_=>by simp
 | j :: r,h=>by
  simp only [Cz,cf,nK] at h
  obtain ⟨⟨h1,h2⟩,h3⟩:=h
  obtain ⟨g1,g2⟩:=U9 h3
  refine ⟨yO.2 ⟨λhm=>?_,g1⟩,λi hi=>?_⟩
  ·rw [vv.2 hm] at h2;cases h2
  ·rcases cj.1 hi with rfl|hi
   ·exact Bj h1
   ·exact g2 i hi
structure W9 (PP:Unit->Program) (X:Ctx) (lv:Nat) (fn:Func) (Sp:nU) (a:Sp.α):Prop where
 out:match fn.body with
  | some c=>tK (pb Sp.mv 0 (Sp.io a)) false PP X lv c (start (Sp.args a) fn.ntmps (Sp.io a)) (vX X fn.results.toList (Yq Sp a))
  | none=>False
theorem adg {PP:Unit->Program} {X:Ctx} (C:X.Ok (PP ())) (IL:lx X) {lv:Nat} {fid:FuncId} {fn:Func} (F:kA (PP ()) fid fn) (jZ:lS fn=true) {Sp:nU}
  (hw:∀a y,JE Sp.mv (Sp.io a) (Sp.kZ a y)=true) (hm:∀a,zV Sp.mv 0 (Sp.io a)=true/\Cz (Sp.io a).length Sp.mv=true) (Pk:Sp.mv.Nodup) (h0:∀a,Sp.pre a->W9 PP X lv fn Sp a):lW PP fid Sp:=by
 obtain ⟨c,hb⟩:=qA.1 F.body
 have hc:codeOk c=true:=by unfold lS at jZ;rw [hb] at jZ;exact jZ
 refine ⟨λa y=>?_,λa j z hz he=>?_,λa y j=>?_,⟨Pk,λa=>(U9 (hm a).2).2⟩,λa ha=>⟨λf η H ac w hS hd D=>?_⟩⟩
 ·have:=hw a y
  simp only [JE,cf] at this
  exact lP this.1.1.1
 ·exact Us (hm a).1 j z hz (by rw [mU];exact he)
 ·have:=hw a y
  simp only [JE,cf] at this
  exact U8 this.1.2 j
 ·have h:=(h0 a ha).out
  rw [hb] at h
  exact Bn C F hb (w6 C IL hc h) f η H ac w hS hd D
end
structure o7:Type 1 where
 α:Type
 args:α->List SV
 pre:α->Prop
 β:Type
 post:α->β->Prop
 res:α->β->SV
structure sE (P:Unit->Program) (f:FuncId) (S:o7):Prop where
 lf:∀a,bZ (S.args a)
 lr:∀a y,LF (S.res a y)
 run:∀a,S.pre a->∀(H F:aV) (w:World) (vals:List Value),H.gQ w->F.gQ w->cW H (S.args a) vals ->
  Calls (P ()) f vals.toArray w λe w'=>∃y v H',S.post a y/\e=.returned v/\H.le H'/\H'.gQ w'/\F.gQ w' /\
   (∀b,H' b≠none->H b≠none\/F b=none)/\n9 H' (S.res a y) v/\w'.os=w.os/\w'.tape=w.tape/\w'.output=w.output
section
variable {P:Program} {X:Ctx} {f:Fr} {s s':St} {η:Nat->Value} {H:aV} {a:Act} {w:World}
structure N1 (Sp:o7) (a:Sp.α) (b:List Slot) (v:SV):Prop where
 out:∃y,vV (λ_=>Sp.post a y)/\Pf (Pe b v) (Sp.res a y)
theorem N1.mk' {Sp:o7} {a:Sp.α} {b:List Slot} {v:SV} (y:Sp.β) (h:Pf (Pe b v) (Sp.res a y)) (hp:Sp.post a y):N1 Sp a b v:=⟨⟨y,⟨hp⟩,h⟩⟩
structure Wg (PP:Unit->Program) (X:Ctx) (lv:Nat) (fn:Func) (Sp:o7) (a:Sp.α):Prop where
 out:match fn.body with
  | some c=>vc PP X lv c (start (Sp.args a) fn.ntmps []) (vX X fn.results.toList (N1 Sp a))
  | none=>False
theorem abd {PP:Unit->Program} {X:Ctx} (C:X.Ok (PP ())) (IL:lx X) {lv:Nat} {fid:FuncId} {fn:Func} (F:kA (PP ()) fid fn) (jZ:lS fn=true) {S:o7}
  (bV:∀a,bZ (S.args a)) (gn:∀a y,LF (S.res a y)) (h0:∀a,S.pre a->Wg PP X lv fn S a):sE PP fid S where
 lf:=bV
 lr:=gn
 run:=λα dL H F0 w vals hH hF iX=>by
  obtain ⟨c,hb⟩:=qA.1 F.body
  have hc:codeOk c=true:=by unfold lS at jZ;rw [hb] at jZ;exact jZ
  have h:=(h0 α dL).out
  rw [hb] at h
  let f:Fr:={ F:=F0,H0:=H,w0:=w }
  have D:Den f ⟨S.args α,[]⟩ (λ_=>.nilIface) H { tmps:=vals.toArray,defers:=[] } w:={
   t:=cW.up (aV.le.refl H) iX
   sv:=by simp [f,aK]
   d:=rfl
   h0:=aV.le.refl H
   hw:=hH
   fw:=hF
   hf:=λb hb=>.inl hb
   sl:=λl x hx=>by simp at hx
   dj:=λl l' b h=>by simp [aP] at h
   dh:=λl b h=>by simp [aP] at h
   os:=rfl
   tape:=rfl
   out:=rfl }
  refine (Bn C F hb (w6 C IL hc h) f _ H _ w rfl rfl D).mono ?_
  rintro e w' ⟨v,b',η',H',xv,rfl,⟨y,hp,hk⟩,D2,h2⟩
  let G:aV:=λb=>match H' b with
   | some o=>some o
   | none=>match F0 b with
    | some _=>none
    | none=>w'.heap[b]?
  have hle:H'.le G:=λb o hb=>by simp only [G];rw [hb]
  have hG:G.gQ w':=λb o hb=>by
   simp only [G] at hb
   split at hb
   ·rename_i o' ho;simp at hb;subst hb;exact D2.hw b _ ho
   ·split at hb
    ·cases hb
    ·exact hb
  have BL:tu D2 G:=⟨hle,λl b hl hb=>by
   obtain ⟨e1,e2⟩:=D2.dh l b hl hb
   have kI:F0 b=none:=e2
   simp only [G,e1,kI]⟩
  have h3:=zd BL 6 _ _ h2
  have h4:=rM hk.out h3
  refine ⟨y,v,G,hp.out,rfl,D2.h0.trans hle,hG,D2.fw,λb hb=>?_,nS _ _ (gn α y) h4,D2.os,D2.tape,D2.out⟩
  by_cases wz:F0 b=none
  ·exact .inr wz
  ·left
   have gz:H' b≠none:=by
    intro e
    apply hb
    simp only [G,e]
    cases hq:F0 b with
    | none=>exact absurd hq wz
    | some _=>rfl
   rcases D2.hf b gz with h|h
   ·exact h
   ·exact absurd h wz
theorem iW.of {P:Unit->Program} {fid:FuncId} {Sp:o7} (I:sE P fid Sp) {S args:List SV} {b:List Slot} {k:List Slot->SV->Prop} (a:Sp.α)
  (lu:(cH (args.map (view b)) (Sp.args a)/\((∀y,(Sp.res a y).scalar=true)\/pe args=false))\/cH (uv args) (Sp.args a))
  (dL:vV λ_=>Sp.pre a) (hk:∀y,Hyp (λ_=>Sp.post a y)->k b (Sp.res a y)):iW S P fid args b k:=by
 refine ⟨λf η H ac w hS hd D=>?_⟩
 have fin:∀(Hc:aV),Hc.gQ w->cW Hc (Sp.args a) ac.tmps.toList ->
   (∀H' w' v y,Hc.le H'->H'.gQ w'->w.grownBy w' none->(∀b,H' b≠none->Hc b≠none\/w.heap.size<=b)->n9 H' (Sp.res a y) v->∃H2,Den f ⟨args,b⟩ η H2 ac w'/\rel η (aP b) H2 (Sp.res a y) v)->Calls (P ()) fid ac.tmps w (xO f k):=by
  intro Hc df iX nf
  have:=I.run a dL.out Hc (gJ w) w _ df (wV w) iX
  rw [Dq] at this
  refine this.mono λe w' ⟨y,v,H',hp,he,g1,g2,g3,g4,g5,g6,g7,g8⟩=>?_
  have fN:=Gy g3 g6 g7 g8
  obtain ⟨H2,D',hr⟩:=nf H' w' v y g1 g2 fN (λb hb=>by
   rcases g4 b hb with h|h
   ·exact .inl h
   ·right
    unfold gJ at h
    simpa using h) g5
  have wq:(⟨#[],[]⟩:Act).defers=f.dS.map BH:=by rw [hd];rfl
  exact ⟨v,b,η,H2,_,he,hk y ⟨hp⟩,{ D' with t:=by simp [aK],d:=wq },hr⟩
 have ht:aK η (aP b) H args ac.tmps.toList:=D.t
 have plain:cH args (Sp.args a)->Calls (P ()) fid ac.tmps w (xO f k):=λhle=>by
  refine fin H D.hw (jn _ _ (I.lf a) (iL hle ht)) ?_
  intro H' w' v y r6 df fN bW gn
  exact ⟨H',D.share fN r6 df bW,n9.up (aV.le.refl H') gn⟩
 rcases lu with ⟨hle,qS|hl⟩|hle
 ·have Ib:aK η (aP b) (gJ w) (args.map (view b)) ac.tmps.toList:=by
   have:∀(xs:List SV) (vs:List Value),aK η (aP b) H xs vs->aK η (aP b) (gJ w) (xs.map (view b)) vs:=by
    intro xs
    induction xs with
    | nil=>intro vs h;simpa [aK] using h
    | cons c r ih =>
     intro vs h
     simp only [aK,il] at h ⊢
     obtain ⟨u,us,h1,h2,h3⟩:=h
     exact ⟨u,us,h1,zd (tu.world D) 4 c u h2,ih us h3⟩
   exact this _ _ ht
  refine fin (gJ w) (wV w) (jn _ _ (I.lf a) (iL hle Ib)) ?_
  intro H' w' v y _ _ fN _ gn
  exact ⟨H,D.grown fN,KT _ _ (qS y) gn⟩
 ·rw [L7 b _ hl] at hle
  exact plain hle
 ·refine fin H D.hw (jn _ _ (I.lf a) (iL hle (yN _ _ ht))) ?_
  intro H' w' v y r6 df fN bW gn
  exact ⟨H',D.share fN r6 df bW,n9.up (aV.le.refl H') gn⟩
theorem iW.rel {P:Unit->Program} {fid:FuncId} {Sp:o7} (I:sE P fid Sp) {S args:List SV} {b:List Slot} {k:List Slot->SV->Prop} (a:Sp.α)
 (lu:cH (uv args) (Sp.args a)) (dL:vV λ_=>Sp.pre a) (hk:∀y,Hyp (λ_=>Sp.post a y)->k b (Sp.res a y)):iW S P fid args b k:=.of I a (.inr lu) dL hk
end
section
variable {P:Program} {X:Ctx} {f:Fr} {s s':St} {η:Nat->Value} {H:aV} {a:Act} {w:World} {S:List SV} {r:Bool}
def zC (l:Nat) (x:SV):SV:=match iD (λm=>Nat.beq m l) x with
 | true=>.any
 | false=>x
def xk (l:Nat):Slot->Slot
 | .fix e cs=>.fix e (cs.map (zC l))
 | x=>x
def St.kill (l:Nat) (s:St):St:=match s.b[l]? with
 | some .un=>s
 | some _=>⟨s.t.map (zC l),(s.b.map (xk l)).set l .dead⟩
 | none=>s
theorem TE (l:Nat) (x:SV):Le x (zC l x):=by
 unfold zC
 split
 ·exact .any _
 ·exact .refl _
theorem Mh (l:Nat):∀xs:List SV,oQ xs (xs.map (zC l))
 | []=>trivial
 | x :: r=>by
  have:=TE l x
  simp only [il,oQ]
  split
  ·exact Mh l r
  ·exact ⟨this,Mh l r⟩
theorem TF (l:Nat):∀xs:List SV,cH xs (xs.map (zC l))
 | []=>.nil
 | x :: r=>.cons (TE l x) (TF l r)
theorem TJ (l:Nat):∀(b:List Slot) (j:Nat),(∀i x,b[i]?=some x->i+j=l->Io x)->lJ b (match Nat.ble j l with|true=>(b.map (xk l)).set (l - j) .dead|false=>b.map (xk l))
 | [],j,_=>by split<;>trivial
 | x :: r,j,h=>by
  have ih:=TJ l r (j+1) λi y hy hi=>h (i+1) y (by simpa using hy) (by omega)
  have slot:cm x (xk l x):=by
   cases x<;>first|exact cm.refl _|exact cm.fix (TF l _)
  have unf:∀(y:Slot) (ys:List Slot),(y=.dead->Io x)->(y=.un->W0 x)->cm x y->lJ r ys->lJ (x :: r) (y :: ys):=by
   intro y ys h1 h2 h3 h4
   cases y<;>first|exact ⟨h1 rfl,h4⟩|exact ⟨h2 rfl,h4⟩|exact ⟨h3,h4⟩
  have BT:∀ys,lJ r ys->lJ (x :: r) (xk l x :: ys):=λys oM=>by
   refine unf _ _ (λe=>?_) (λe=>?_) slot oM
   ·cases x<;>first|trivial|(simp [xk] at e)
   ·cases x<;>first|trivial|(simp [xk] at e)
  by_cases hj:j < l
  ·have e1:Nat.ble j l=true:=sY (by omega)
   have e2:Nat.ble (j+1) l=true:=sY (by omega)
   rw [e2] at ih
   rw [e1]
   simp only [il]
   rw [show l - j=(l - (j+1))+1 by omega,G5]
   exact BT _ ih
  ·have e2:Nat.ble (j+1) l=false:=by
    cases e:Nat.ble (j+1) l with
    | false=>rfl
    | true=>have:=Bj e;omega
   rw [e2] at ih
   by_cases e7:j=l
   ·subst e7
    have e1:Nat.ble j j=true:=sY (fP _)
    rw [e1]
    simp only [il,yT,List.set_cons_zero]
    exact ⟨h 0 x (by simp) (by omega),ih⟩
   ·have e1:Nat.ble j l=false:=by
     cases e:Nat.ble j l with
     | false=>rfl
     | true=>have:=Bj e;omega
    rw [e1]
    simp only [il]
    exact BT _ ih
theorem Sat.kill {P:Unit->Program} {c:Code} {k:Exit->St->Prop} (l:Nat) (h:Sat S r P c (s.kill l) k):Sat S r P c s k:=by
 have main:(∀y,s.b[l]?=some y->Io y)->Sat S r P c ⟨s.t.map (zC l),(s.b.map (xk l)).set l .dead⟩ k->Sat S r P c s k:=λhn h=>by
  refine Sat.weaken ⟨Mh l s.t,?_⟩ h
  have:=TJ l s.b 0 λi y hy hi=>by
   have:i=l:=by omega
   subst this
   exact hn y hy
  have e1:Nat.ble 0 l=true:=sY (cK _)
  rw [e1] at this
  exact this
 unfold St.kill at h
 cases hb:s.b[l]? with
 | none=>rw [hb] at h;exact h
 | some x =>
  rw [hb] at h
  cases x with
  | un=>exact h
  | _=>exact main (λy hy=>by rw [hb] at hy;cases hy;trivial) h
end
mutual
theorem Mi (g:Nat->Nat):∀x:SV,LF x->ep g x=x
 | .ptr ..,h=>h.elim
 | .fq ..,h=>h.elim
 | .own _,h=>h.elim
 | .eh ..,h=>h.elim
 | .fm _,h=>h.elim
 | .fE _,h=>h.elim
 | .agg cs,h=>by simp only [LF] at h;simp only [ep,zg g cs h]
 | .bX cs,h=>by simp only [LF] at h;simp only [ep,zg g cs h]
 | .dF cs n,h=>by simp only [LF] at h;simp only [ep,zg g cs h]
 | .cZ cs off,h=>by simp only [LF] at h;simp only [ep,zg g cs h]
 | .fn f x y,h=>by simp only [LF] at h;simp only [ep,zg g x h.1,zg g y h.2]
 | .kV t x,h=>by simp only [LF] at h;simp only [ep,Mi g x h]
 | .sl ..,_=>by rw [ep]
 | .fu ..,_=>by rw [ep]
 | .mp ..,_=>by rw [ep]
 | .opt ..,_=>by rw [ep]
 | .any,_=>by rw [ep]
 | .cell,_=>by rw [ep]
 | .bc _,_=>by rw [ep]
 | .b _,_=>by rw [ep]
 | .nb _ _,_=>by rw [ep]
 | .ic _ _,_=>by rw [ep]
 | .i _ _,_=>by rw [ep]
 | .str _,_=>by rw [ep]
 | .v _,_=>by rw [ep]
 | .cD,_=>by rw [ep]
theorem zg (g:Nat->Nat):∀xs:List SV,bZ xs->oL g xs=xs
 | [],_=>rfl
 | x :: r,h=>by simp only [bZ] at h;simp only [oL,Mi g x h.1,zg g r h.2]
end
theorem iW.tM {P:Unit->Program} {fid:FuncId} {Sp:nU} (I:lW P fid Sp) (bV:∀a y,LF (Sp.res a y)) {S args:List SV} {b:List Slot} {k:List Slot->SV->Prop} (a:Sp.α) (L:List Nat)
  (iZ:zT (Sp.io a) L b.length []=true) (lu:cH args (oL (tL L b.length) (Sp.args a))) (Pg:lJ b (rT (tL L b.length) (λ_=>false) 0 (Sp.io a) b))
  (dL:vV λ_=>Sp.pre a) (hk:∀y,Hyp (λ_=>Sp.post a y)->k (Mz b L Sp.mv (Sp.kZ a y)) (Sp.res a y)):iW S P fid args b k :=
 .io I a L iZ lu Pg dL λy hy=>by rw [Mi _ _ (bV a y)];exact hk y hy
theorem gw {p:Prop} (h:p:=by ((repeat' first|exact cH.nil|exact Le.refl _|refine cH.cons ?_ ?_|exact Le.ic rfl|exact Le.bc rfl|exact Le.i rfl|exact Le.b rfl|exact Le.sl rfl|exact Le.mp rfl|exact Le.fu rfl|exact Le.nX rfl|refine Le.cD rfl (λ_=>?_)|refine Le.dF rfl (λ_ _=>rfl) (λ_=>?_) ?_|refine Le.agg ?_|refine Le.bX ?_|refine Le.fn ?_ ?_|refine Le.cZ ?_|exact trivial|refine And.intro ?_ ?_|refine λ_=>?_|exact Le.any _))<;>first|exact Le.i (by with_reducible assumption)|exact Le.i (ld (by with_reducible assumption))|exact Le.sl (by with_reducible assumption)|exact Le.sl (ld (by with_reducible assumption))|exact Le.ic (by with_reducible assumption)|exact Le.ic (ld (by with_reducible assumption))|exact Le.b (by with_reducible assumption)|exact Le.b (ld (by with_reducible assumption))|exact Le.bc (by with_reducible assumption)|exact Le.i (by assumption)|exact Le.i (ld (by assumption))|exact Le.sl (by assumption)|exact Le.sl (ld (by assumption))|exact Le.b (by assumption)|exact Le.b (ld (by assumption))):p:=h
theorem aW {p:Prop} (h:p:=by ((try cbv)<;>(repeat' (first|with_reducible exact trivial|with_reducible refine And.intro ?_ ?_))<;>(try first|exact cm.refl _|exact cm.dyn rfl|exact cm.map rfl|exact cm.iter rfl rfl (.inl rfl)|exact cm.iter rfl rfl (.inr rfl)|refine cm.fix ?_|refine cm.dyn ?_)<;>((repeat' first|exact cH.nil|exact Le.refl _|refine cH.cons ?_ ?_|exact Le.ic rfl|exact Le.bc rfl|exact Le.i rfl|exact Le.b rfl|exact Le.sl rfl|exact Le.mp rfl|exact Le.fu rfl|exact Le.nX rfl|refine Le.cD rfl (λ_=>?_)|refine Le.dF rfl (λ_ _=>rfl) (λ_=>?_) ?_|refine Le.agg ?_|refine Le.bX ?_|refine Le.fn ?_ ?_|refine Le.cZ ?_|exact trivial|refine And.intro ?_ ?_|refine λ_=>?_|exact Le.any _)))<;>first|exact Le.i (by with_reducible assumption)|exact Le.i (ld (by with_reducible assumption))|exact Le.sl (by with_reducible assumption)|exact Le.sl (ld (by with_reducible assumption))|exact Le.ic (by with_reducible assumption)|exact Le.ic (ld (by with_reducible assumption))|exact Le.b (by with_reducible assumption)|exact Le.b (ld (by with_reducible assumption))|exact Le.bc (by with_reducible assumption)|exact Le.i (by assumption)|exact Le.i (ld (by assumption))|exact Le.sl (by assumption)|exact Le.sl (ld (by assumption))|exact Le.b (by assumption)|exact Le.b (ld (by assumption))):p:=h
theorem a7 {p:Prop} (h:p:=by ((try cbv)<;>((repeat' first|exact cH.nil|exact Le.refl _|refine cH.cons ?_ ?_|exact Le.ic rfl|exact Le.bc rfl|exact Le.i rfl|exact Le.b rfl|exact Le.sl rfl|exact Le.mp rfl|exact Le.fu rfl|exact Le.nX rfl|refine Le.cD rfl (λ_=>?_)|refine Le.dF rfl (λ_ _=>rfl) (λ_=>?_) ?_|refine Le.agg ?_|refine Le.bX ?_|refine Le.fn ?_ ?_|refine Le.cZ ?_|exact trivial|refine And.intro ?_ ?_|refine λ_=>?_|exact Le.any _)))<;>first|exact Le.i (by with_reducible assumption)|exact Le.i (ld (by with_reducible assumption))|exact Le.sl (by with_reducible assumption)|exact Le.sl (ld (by with_reducible assumption))|exact Le.ic (by with_reducible assumption)|exact Le.ic (ld (by with_reducible assumption))|exact Le.b (by with_reducible assumption)|exact Le.b (ld (by with_reducible assumption))|exact Le.bc (by with_reducible assumption)|exact Le.i (by assumption)|exact Le.i (ld (by assumption))|exact Le.sl (by assumption)|exact Le.sl (ld (by assumption))|exact Le.b (by assumption)|exact Le.b (ld (by assumption))):p:=h
theorem fW {S:List SV} {r:Bool} {P:Unit->Program} {c:Code} {s:Vc.St} {k:Exit->Vc.St->Prop} (n:Nat) (s':Vc.St) (h0:oQ (s.cut n).t s'.t) (pr:lJ (s.cut n).b s'.b)
 (h:Sat S r P c s' k) (hn:kT (Nat.ble n) S=false:=by rfl):Sat S r P c s k:=⟨λF R f η H a w hS D=>h.out F R f η H a w hS ((D.cut n (by rw [hS];exact hn)).weaken ⟨h0,pr⟩)⟩
theorem xl {G:Prop} (T:Code->(Exit->Vc.St->Prop)->Prop) {c:Code} {k:Exit->Vc.St->Prop} (main:T c k->G) (tail:T c k):G:=main tail
def N2 (P:Program) (f:FuncId) (S:Spec):Prop:=∀a,S.pre a->∀(H F:aV) (w:World) (vals:List Value),H.gQ w->F.gQ w->cW H (S.args a) vals ->
 Calls P f vals.toArray w λe w'=>∃v N,e=.returned v/\H.gQ w'/\F.gQ w'/\aV.gQ N w'/\(∀b,N b≠none->H b=none/\F b=none)/\n9 N (S.res a) v /\
  w'.os=w.os/\w'.tape=w.tape/\w'.output=w.output
theorem N2.spec {P:Program} {f:FuncId} {S:Spec} (I:N2 P f S) {fn:Func} (F:kA P f fn) (bV:∀a,bZ (S.args a)) (gn:∀a,LF (S.res a)):dm P f S where
 fn:=⟨fn,F⟩
 lf:=bV
 lr:=gn
 fresh:=λ_=>I
 run:=λa hp H F w vals hH hF hr=>by
  refine (I a hp H F w vals hH hF hr).mono ?_
  rintro e w' ⟨v,N,he,g1,g2,g3,g4,g5,g6,g7,g8⟩
  let G:aV:=λb=>match H b with
   | some o=>some o
   | none=>N b
  have OT:N.le G:=λb o hb=>by
   have:=(g4 b (by rw [hb];simp)).1
   simp only [G,this];exact hb
  refine ⟨v,G,he,λb o hb=>by simp only [G];rw [hb],λb o hb=>?_,g2,λb hb=>?_,s5 (gP.refl _ _) OT _ _ g5,g6,g7,g8⟩
  ·simp only [G] at hb
   split at hb
   ·rename_i o' ho;simp at hb;subst hb;exact g1 b _ ho
   ·exact g3 b o hb
  ·cases hq:H b with
   | some o=>exact .inl (by simp)
   | none =>
    right
    exact (g4 b (by simpa only [G,hq] using hb)).2
section
variable {P:Program} {X:Ctx} {f:Fr} {s s':St} {η:Nat->Value} {H:aV} {a:Act} {w:World}
structure aih (r:SV) (b:List Slot) (v:SV):Prop where
 out:match v with
  | .own l=>(match b[l]? with
   | some (.dyn e sz c xs)=>Le (.sl sz c xs) r/\∀x,xo (c x)=true
   | _=>False)
  | .eh l Ab g n=>(match b[l]? with
   | some (.dyn e sz c xs)=>Ab=sz/\n ()<=(xs ()).length/\Le (.sl sz c λ_=>((xs ()).take (n ())).drop (g ())) r/\∀x,xo (c x)=true
   | _=>False)
  | _=>False
structure Wh (PP:Unit->Program) (X:Ctx) (lv:Nat) (fn:Func) (args:List SV) (res:SV):Prop where
 out:match fn.body with
  | some c=>vc PP X lv c (start args fn.ntmps []) (vX X fn.results.toList (aih res))
  | none=>False
theorem abe {PP:Unit->Program} {X:Ctx} (C:X.Ok (PP ())) (IL:lx X) {lv:Nat} {fid:FuncId} {fn:Func} (F:kA (PP ()) fid fn) (jZ:lS fn=true) {S:Spec}
  (bV:∀a,bZ (S.args a)) (gn:∀a,LF (S.res a)) (h0:∀a,S.pre a->Wh PP X lv fn (S.args a) (S.res a)):dm (PP ()) fid S:=by
 refine N2.spec (λα dL H F0 w vals hH hF iX=>?_) F bV gn
 ·obtain ⟨c,hb⟩:=qA.1 F.body
  have hc:codeOk c=true:=by unfold lS at jZ;rw [hb] at jZ;exact jZ
  have h:=(h0 α dL).out
  rw [hb] at h
  let f:Fr:={ F:=F0,H0:=H,w0:=w }
  have D:Den f ⟨S.args α,[]⟩ (λ_=>.nilIface) H { tmps:=vals.toArray,defers:=[] } w:={
   t:=cW.up (aV.le.refl H) iX
   sv:=by simp [f,aK]
   d:=rfl
   h0:=aV.le.refl H
   hw:=hH
   fw:=hF
   hf:=λb hb=>.inl hb
   sl:=λl x hx=>by simp at hx
   dj:=λl l' b h=>by simp [aP] at h
   dh:=λl b h=>by simp [aP] at h
   os:=rfl
   tape:=rfl
   out:=rfl }
  refine (Bn C F hb (w6 C IL hc h) f _ H _ w rfl rfl D).mono ?_
  rintro e w' ⟨v,b',η',H',xv,rfl,hk,D2,h2⟩
  have hk:=hk.out
  have fin:∀{T:Type} (sz:Nat) (c:T->List SV) (xs:Unit->List T) (l:Nat) (v:Value),aP b' l=.live->rel η' (aP b') (gJ w') (.sl sz c xs) v->(∀x,xo (c x)=true)->Le (.sl sz c xs) (S.res α) ->
    (∀ad n cp,v=.slice (some ad) n cp->0 < n->n<=cp->bS (η' l)=some ad.block)->∃v' N,Ending.returned v=.returned v'/\H.gQ w'/\F0.gQ w'/\aV.gQ N w'/\(∀b,N b≠none->H b=none/\F0 b=none)/\n9 N (S.res α) v' /\
     w'.os=w.os/\w'.tape=w.tape/\w'.output=w.output:=by
   intro T sz c xs l v hq h3 qS ES jd
   let N:aV:=λb=>if bS (η' l)=some b then w'.heap[b]? else none
   have hN:n9 N (.sl sz c xs) v:=by
    simp only [rel] at h3 ⊢
    obtain ⟨⟨ad,cap,h1,h0,h2⟩,bV⟩:=h3
    refine ⟨⟨ad,cap,h1,h0,?_⟩,bV⟩
    rcases h2 with h|⟨a,ha,hs,eV⟩
    ·exact .inl h
    ·by_cases Fh:xs ()=[]
     ·exact .inl Fh
     ·refine .inr ⟨a,ha,hs,λj x hj=>?_⟩
      obtain ⟨vals,g1,g2,g3⟩:=eV j x hj
      have pU:0 < (xs ()).length:=List.length_pos_iff.2 Fh
      have hblk:bS (η' l)=some a.block:=jd a _ cap (by rw [h1,ha]) pU h0
      refine ⟨vals,g1,GI _ _ (qS x) g2,λi u hu=>?_⟩
      have:=g3 i u hu
      unfold nW at this ⊢
      simp only [N,hblk,if_true]
      exact this
   refine ⟨_,N,rfl,λb o hb=>D2.hw b o (D2.h0 b o hb),D2.fw,λb o hb=>?_,λb hb=>?_,rM ES hN,D2.os,D2.tape,D2.out⟩
   ·simp only [N] at hb
    split at hb
    ·exact hb
    ·cases hb
   ·simp only [N] at hb
    split at hb
    ·rename_i pg
     obtain ⟨e1,e2⟩:=D2.dh l b hq pg
     refine ⟨?_,e2⟩
     cases hHb:H b with
     | none=>rfl
     | some o=>have:=D2.h0 b o hHb;rw [e1] at this;cases this
    ·exact absurd rfl hb
  have BL:tu D2 (gJ w'):=tu.world D2
  split at hk
  case h_3=>exact hk.elim
  ·rename_i l _
   split at hk
   case h_2=>exact hk.elim
   rename_i T e sz c xs hx
   obtain ⟨ES,qS⟩:=hk
   have hq:aP b' l=.live:=bR hx
   simp only [rel,hq] at h2
   obtain ⟨hv,gv⟩:=h2
   subst hv
   have h3:=zd BL 6 (.own l) (η' l) (by simp only [rel];rw [show aP (St.mk [] b').b l=.live from hq];exact ⟨trivial,gv⟩)
   simp only [gM,hx] at h3
   refine fin sz c xs l _ hq h3 qS ES λad n cp h1 hn hc=>?_
   rw [h1];simp only [bS];rw [if_neg (by omega)]
  ·rename_i l Ab g n _
   split at hk
   case h_2=>exact hk.elim
   rename_i T e sz c xs hx
   obtain ⟨rfl,X5,ES,qS⟩:=hk
   have hq:aP b' l=.live:=bR hx
   have h3:=zd BL 6 (.eh l Ab g n) _ h2
   simp only [gM,hx,LB] at h3
   simp only [rel,hq] at h2
   obtain ⟨OM,nn,c0,he,uO,qb,km,c',hv,-,JC,-⟩:=h2
   obtain ⟨vals,jy,-⟩:=D2.sl l _ hx
   refine fin Ab c _ l _ hq h3 qS ES λad k cp h1 hn hc=>?_
   rw [hv] at h1
   cases h1
   obtain ⟨bl,h5,h6⟩:=JC (by omega)
   cases h6
   rw [he,h5]
   rcases jy with ⟨-,bM⟩|⟨⟨ad2,h7⟩,h8,-⟩
   ·have:c0≠0:=λe0=>bM OM nn (by rw [he,e0])
    simp only [bS];rw [if_neg this]
   ·rw [he] at h7;cases h7;omega
end
end Go.Vc
