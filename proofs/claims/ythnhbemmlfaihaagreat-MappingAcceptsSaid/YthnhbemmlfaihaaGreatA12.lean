import Derived.Test.YthnhbemmlfaihaaGreatA11
set_option linter.unusedVariables false
set_option linter.unusedSimpArgs false
set_option maxRecDepth 10000
set_option maxHeartbeats 64000000
namespace Go.Vc
open Go
mutual
def eC (g:Nat->Nat):SV->SV
 | .ptr m off=>.ptr (g m) off
 | .fB m sz i off=>.fB (g m) sz i off
 | .own m=>.own (g m)
 | .eA m sz i j=>.eA (g m) sz i j
 | .agg cs=>.agg (oM g cs)
 | .cd cs=>.cd (oM g cs)
 | .dK cs n=>.dK (oM g cs) n
 | .db cs off=>.db (oM g cs) off
 | .fn f x y=>.fn f (oM g x) (oM g y)
 | .k7 t x=>.k7 t (eC g x)
 | .sl sz c xs=>.sl sz c xs
 | .fC sz c xs=>.fC sz c xs
 | .mp j c m=>.mp j c m
 | .opt p x=>.opt p x
 | .fA m=>.fA (g m)
 | .fI m=>.fI (g m)
 | .any=>.any
 | .cell=>.cell
 | .bc c=>.bc c
 | .b x=>.b x
 | .nb d p=>.nb d p
 | .ic k x=>.ic k x
 | .i k x=>.i k x
 | .str x=>.str x
 | .v x=>.v x
 | .cG=>.cG
def oM (g:Nat->Nat):List SV->List SV
 | []=>[]
 | x :: r=>eC g x :: oM g r
end
def nO (g:Nat->Nat):Slot->Slot
 | .fix e cs=>.fix e (oM g cs)
 | .dQ ts ps ec body st=>.dQ (oM g ts) ps ec body st
 | x=>x
section
variable {P:Program} {X:Ctx} {f:Fr} {s s':St} {η:Nat->Value} {H:aZ} {a:Act} {w:World}
mutual
theorem xq {q:Nat->Live} {g:Nat->Nat}:∀(x:SV) (v:Value),rel η q H (eC g x) v↔rel (λl=>η (g l)) (λl=>q (g l)) H x v
 | .ptr m off,v=>by simp only [eC,rel]
 | .fB m sz i off,v=>by simp only [eC,rel]
 | .own m,v=>by simp only [eC,rel]
 | .eA m sz i j,v=>by simp only [eC,rel]
 | .agg cs,v=>by
  simp only [eC,rel]
  exact ⟨λ⟨vs,h1,h2⟩=>⟨vs,h1,(mq cs vs).1 h2⟩,λ⟨vs,h1,h2⟩=>⟨vs,h1,(mq cs vs).2 h2⟩⟩
 | .cd cs,v=>by
  simp only [eC,rel]
  exact ⟨λ⟨vs,h1,h2⟩=>⟨vs,h1,(mq cs vs).1 h2⟩,λ⟨vs,h1,h2⟩=>⟨vs,h1,(mq cs vs).2 h2⟩⟩
 | .dK cs n,v=>by
  simp only [eC,rel]
  exact ⟨λ⟨ad,h1,h2⟩=>⟨ad,h1,h2.imp id λ⟨b,h3,h4,vs,h5,h6⟩=>⟨b,h3,h4,vs,(mq cs vs).1 h5,h6⟩⟩,
   λ⟨ad,h1,h2⟩=>⟨ad,h1,h2.imp id λ⟨b,h3,h4,vs,h5,h6⟩=>⟨b,h3,h4,vs,(mq cs vs).2 h5,h6⟩⟩⟩
 | .db cs off,v=>by
  simp only [eC,rel]
  exact ⟨λ⟨b,h1,vs,h2,h3⟩=>⟨b,h1,vs,(mq cs vs).1 h2,h3⟩,λ⟨b,h1,vs,h2,h3⟩=>⟨b,h1,vs,(mq cs vs).2 h2,h3⟩⟩
 | .fn f x y,v=>by
  simp only [eC,rel]
  exact ⟨λ⟨fs,cs,h1,h2,h3⟩=>⟨fs,cs,h1,(mq x fs).1 h2,(mq y cs).1 h3⟩,λ⟨fs,cs,h1,h2,h3⟩=>⟨fs,cs,h1,(mq x fs).2 h2,(mq y cs).2 h3⟩⟩
 | .k7 t x,v=>by
  simp only [eC,rel]
  exact ⟨λ⟨y,h1,h2⟩=>⟨y,h1,(xq x y).1 h2⟩,λ⟨y,h1,h2⟩=>⟨y,h1,(xq x y).2 h2⟩⟩
 | .sl sz c xs,v=>by
  rw [eC]
  constructor<;>intro h<;>refine nS _ _ ?_ h<;>(simp only [rel,LF] at h ⊢;exact h.2)
 | .fC sz c xs,v=>by
  rw [eC]
  constructor<;>intro h<;>refine nS _ _ ?_ h<;>(simp only [rel,LF] at h ⊢;exact h.2)
 | .mp j c m,v=>by
  rw [eC]
  constructor<;>intro h<;>refine nS _ _ ?_ h<;>(simp only [rel,LF] at h ⊢;exact h.2)
 | .opt p x,v=>by
  rw [eC]
  constructor<;>intro h<;>refine nS _ _ ?_ h<;>(simp only [rel,LF] at h ⊢;exact h.2)
 | .fA m,v=>by simp only [eC,rel]
 | .fI m,v=>by simp only [eC,rel]
 | .any,v=>by simp only [eC,rel]
 | .cell,v=>by simp only [eC,rel]
 | .bc c,v=>by simp only [eC,rel]
 | .b x,v=>by simp only [eC,rel]
 | .nb d p,v=>by simp only [eC,rel]
 | .ic k x,v=>by simp only [eC,rel]
 | .i k x,v=>by simp only [eC,rel]
 | .str x,v=>by simp only [eC,rel]
 | .v x,v=>by simp only [eC,rel]
 | .cG,v=>by simp only [eC,rel]
theorem mq {q:Nat->Live} {g:Nat->Nat}:∀(x:List SV) (v:List Value),aL η q H (oM g x) v↔aL (λl=>η (g l)) (λl=>q (g l)) H x v
 | [],v=>by simp only [oM,aL]
 | x :: r,v=>by
  simp only [oM,aL]
  exact ⟨λ⟨u,us,h1,h2,h3⟩=>⟨u,us,h1,(xq x u).1 h2,(mq r us).1 h3⟩,λ⟨u,us,h1,h2,h3⟩=>⟨u,us,h1,(xq x u).2 h2,(mq r us).2 h3⟩⟩
end
theorem rE (g:Nat->Nat) (x:Slot):(nO g x).live=x.live:=by cases x<;>rfl
theorem RT {q:Nat->Live} {g:Nat->Nat} {l:Nat} {x:Slot}:iU η q H w (g l) (nO g x)↔iU (λl=>η (g l)) (λl=>q (g l)) H w l x:=by
 cases x with
 | un=>exact vz
 | dead=>exact vz
 | fix e cs =>
  simp only [nO,iU]
  exact ⟨λ⟨bl,vs,h1,h2,h3⟩=>⟨bl,vs,h1,h2,(mq cs _).1 h3⟩,λ⟨bl,vs,h1,h2,h3⟩=>⟨bl,vs,h1,h2,(mq cs _).2 h3⟩⟩
 | dyn e sz c xs=>exact vz
 | map k c m=>exact vz
 | iter k c m seen cur=>exact vz
 | dQ ts ps ec body st =>
  simp only [nO,iU]
  exact ⟨λ⟨bl,fn,tmps,d,h1,h2,h3⟩=>⟨bl,fn,tmps,d,h1,h2,(mq ts _).1 h3⟩,λ⟨bl,fn,tmps,d,h1,h2,h3⟩=>⟨bl,fn,tmps,d,h1,h2,(mq ts _).2 h3⟩⟩
theorem iU.I8 {η η':Nat->Value} {q q':Nat->Live} {H:aZ} {w:World} {l:Nat} {x:Slot} (h:iU η q H w l x) (ht:gQ η η' q q') (he:x.live=.live->η' l=η l):iU η' q' H w l x:=by
 cases hx:x.live with
 | live=>exact h.kept ht (aZ.le.refl _) (he hx) λ_ _=>rfl
 | _=>cases x<;>first|trivial|cases hx
structure nU:Type 1 where
 α:Type
 args:α->List SV
 io:α->List Slot
 pre:α->Prop
 β:Type
 post:α->β->Prop
 mv:List Nat
 res:α->β->SV
 ld:α->β->List Slot
def fj (j:Nat):List Nat->Bool
 | []=>false
 | x :: r=>Nat.beq j x||fj j r
theorem vA {j:Nat}:∀{l:List Nat},fj j l=true↔j∈l
 | []=>by simp [fj]
 | x :: r=>by simp [fj,yX,vA]
def nZ (j:Nat):Slot->SV
 | .fix _ _=>.ptr j 0
 | .dyn ..=>.own j
 | .map ..=>.fA j
 | .iter ..=>.ptr j 0
 | .dQ ..=>.fI j
 | _=>.any
def pZ (v:Value):Slot->Value
 | .dQ ..=>match v with
  | .pointer (some a)=>.func (.yield a.block) #[] #[]
  | _=>.nilIface
 | _=>v
def pj (mv:List Nat):Nat->List Slot->List SV
 | _,[]=>[]
 | j,x :: r=>(match fj j mv with|true=>.any|false=>nZ j x) :: pj mv (j+1) r
def vW (η:Nat->Value):Nat->List Slot->List Value
 | _,[]=>[]
 | j,x :: r=>pZ (η j) x :: vW η (j+1) r
theorem afx {q:Nat->Live} {l:Nat} {x:Slot} (h:iU η q H w l x) (hq:q l=x.live):rel η q H (nZ l x) (pZ (η l) x):=by
 cases x with
 | un=>simp only [nZ,rel]
 | dead=>simp only [nZ,rel]
 | fix e cs =>
  obtain ⟨bl,vs,h1,h2,h3⟩:=h
  simp only [nZ,rel,hq,Slot.live,pZ]
  exact ⟨bl,h1,h1⟩
 | dyn e sz c xs =>
  obtain ⟨vals,h1,_⟩:=h
  obtain ⟨ad,cp,h2,_⟩:=h1.slice
  simp only [nZ,rel,hq,Slot.live,pZ]
  exact ⟨trivial,_,_,_,h2⟩
 | map k c m =>
  obtain ⟨r,es,clock,h1,_⟩:=h
  simp only [nZ,rel,hq,Slot.live,pZ]
  exact ⟨trivial,_,h1⟩
 | iter k c m seen cur =>
  obtain ⟨bl,h1,_⟩:=h
  simp only [nZ,rel,hq,Slot.live,pZ]
  exact ⟨bl,h1,h1⟩
 | dQ ts ps ec body st =>
  obtain ⟨bl,fn,tmps,d,h1,_⟩:=h
  simp only [nZ,rel,hq,Slot.live,pZ,h1]
  exact ⟨bl,rfl,rfl⟩
theorem afy {η':Nat->Value} {q q':Nat->Live} {H':aZ} {w:World} {l:Nat} {x:Slot} (hx:x.live=.live) (h:iU η q H w l x) (hq:q' l=.live) (hr:rel η' q' H' (nZ l x) (pZ (η l) x)):η' l=η l:=by
 cases x with
 | un=>cases hx
 | dead=>cases hx
 | fix e cs =>
  simp only [nZ,rel,hq,pZ] at hr
  obtain ⟨bl,h1,h2⟩:=hr
  exact h1.trans h2.symm
 | dyn e sz c xs =>
  simp only [nZ,rel,hq,pZ] at hr
  exact hr.1.symm
 | map k c m =>
  simp only [nZ,rel,hq,pZ] at hr
  exact hr.1.symm
 | iter k c m seen cur =>
  simp only [nZ,rel,hq,pZ] at hr
  obtain ⟨bl,h1,h2⟩:=hr
  exact h1.trans h2.symm
 | dQ ts ps ec body st =>
  obtain ⟨bl,fn,tmps,d,h1,_⟩:=h
  simp only [nZ,rel,hq,pZ,h1] at hr
  obtain ⟨jB,h2,h3⟩:=hr
  simp at h3
  subst h3
  rw [h1,h2]
theorem Uy {q:Nat->Live} (mv:List Nat):∀(b:List Slot) (j:Nat),(∀(l:Nat) (x:Slot),b[l]?=some x->iU η q H w (j+l) x/\q (j+l)=x.live)->aL η q H (pj mv j b) (vW η j b)
 | [],_,_=>by simp [pj,vW,aL]
 | x :: r,j,h=>by
  simp only [pj,vW,aL]
  refine ⟨_,_,rfl,?_,Uy mv r (j+1) λl y hy=>?_⟩
  ·have:=h 0 x rfl
   simp only [rK] at this
   split
   ·simp only [rel]
   ·exact afx this.1 this.2
  ·have:=h (l+1) y (by simpa using hy)
   rwa [show j+1+l=j+(l+1) by omega]
theorem TO (η:Nat->Value) (mv:List Nat):∀(b:List Slot) (j l:Nat) (x:Slot),b[l]?=some x->fj (j+l) mv=false->(pj mv j b)[l]?=some (nZ (j+l) x)/\(vW η j b)[l]?=some (pZ (η (j+l)) x)
 | [],_,l,x,h,_=>by simp at h
 | y :: r,j,0,x,h,he=>by
  simp at h
  subst h
  simp only [rK] at he
  simp [pj,vW,he]
 | y :: r,j,l+1,x,h,he=>by
  have:=TO η mv r (j+1) l x (by simpa using h) (by rwa [show j+1+l=j+(l+1) by omega])
  rw [show j+1+l=j+(l+1) by omega] at this
  simpa [pj,vW] using this
def sd:List Nat->St->St
 | [],s=>s
 | m :: r,s=>match s.b[m]? with
  | some x=>match x.live with
   | .live=>sd r (s.freeze m)
   | _=>sd r s
  | none=>sd r s
theorem Den.sd:∀(r:List Nat) {s:St} {H:aZ},Den f s η H a w->∃H',Den f (sd r s) η H' a w
 | [],s,H,D=>⟨H,D⟩
 | m :: r,s,H,D=>by
  unfold Vc.sd
  split
  ·rename_i x hx
   split
   ·rename_i hl
    obtain ⟨H1,D1⟩:=D.freeze hx hl
    exact Den.sd r D1
   ·exact Den.sd r D
  ·exact Den.sd r D
def YF (Sp:nU) (a:Sp.α) (b:List Slot) (v:SV):Prop :=
 ∃(y:Sp.β) (fr:List Nat) (own:List (Place × Nat)),oT (fit (pj Sp.mv 0 (Sp.io a)) (Sp.io a).length own (sd fr ⟨[v],b⟩)).t [Sp.res a y] /\
  lL (fit (pj Sp.mv 0 (Sp.io a)) (Sp.io a).length own (sd fr ⟨[v],b⟩)).b (Sp.ld a y)/\vY (λ_=>Sp.post a y)
structure l5 (P:Unit->Program) (fid:FuncId) (Sp:nU):Prop where
 len:∀a y,(Sp.ld a y).length=(Sp.io a).length
 old:∀a (j:Nat) (z:Slot),(Sp.io a)[j]?=some z->fj j Sp.mv=false->z.live=.live
 nu:∀a y (j:Nat),(Sp.ld a y)[j]?≠some .un
 mv:Sp.mv.Nodup/\∀a,∀j∈Sp.mv,j < (Sp.io a).length
 run:∀a,Sp.pre a->iW (pj Sp.mv 0 (Sp.io a)) P fid (Sp.args a) (Sp.io a) (YF Sp a)
def tO (L:List Nat) (d j:Nat):Nat:=match L[j]? with
 | some l=>l
 | none=>d
def rX (g:Nat->Nat) (sk:Nat->Bool):Nat->List Slot->List Slot->List Slot
 | _,[],b=>b
 | j,x :: r,b=>rX g sk (j+1) r (match sk j with|true=>b|false=>b.set (g j) (nO g x))
def xC (g:Nat->Nat):List Nat->List Slot->List Slot
 | [],b=>b
 | j :: r,b=>xC g r (b.set (g j) .dead)
def Cg (j:Nat):List Nat->Nat
 | []=>0
 | x :: r=>match Nat.beq j x with
  | true=>0
  | false=>Cg j r+1
def zW:List Slot->List Nat->Nat->List Nat->Bool
 | [],[],_,_=>true
 | x :: r,l :: ls,n,seen=>(match Nat.blt l n with
  | true=>!fj l seen
  | false=>match x with|.dead=>true|_=>false)&&zW r ls n (l :: seen)
 | _,_,_,_=>false
def zX (n:Nat) (L mv:List Nat) (j:Nat):Nat:=match fj j mv with
 | true=>n+Cg j mv
 | false=>tO L (n+mv.length) j
def zp (g:Nat->Nat) (bs:List Slot):List Nat->List Slot
 | []=>[]
 | j :: r=>(match bs[j]? with|some x=>nO g x|none=>.dead) :: zp g bs r
def MH (b:List Slot) (L mv:List Nat) (bs:List Slot):List Slot :=
 rX (zX b.length L mv) (λj=>fj j mv) 0 bs (xC (tO L b.length) mv b)++zp (zX b.length L mv) bs mv
theorem Ed {j:Nat}:∀{l:List Nat},fj j l=true->l[Cg j l]?=some j
 | [],h=>by simp [fj] at h
 | x :: r,h=>by
  simp only [fj,nM] at h
  unfold Cg
  split
  ·rename_i e
   rw [lU e];rfl
  ·rename_i e
   rw [e] at h
   simp only [mV,false_or] at h
   simpa using Ed h
theorem aez {l:List Nat} (hn:l.Nodup) {i j:Nat} (h:l[i]?=some j):Cg j l=i:=by
 have hm:fj j l=true:=vA.2 (cM h)
 have h1:=Ed hm
 have l1:=(bf.1 h1)
 have l2:=(bf.1 h)
 obtain ⟨a1,a2⟩:=l1
 obtain ⟨b1,b2⟩:=l2
 exact (List.getElem_inj hn).1 (a2.trans b2.symm)
theorem KN (g:Nat->Nat) (sk:Nat->Bool):∀(bs:List Slot) (j:Nat) (b:List Slot),(rX g sk j bs b).length=b.length
 | [],_,_=>rfl
 | x :: r,j,b=>by
  rw [rX,KN g sk r]
  split<;>simp
theorem QU (g:Nat->Nat):∀(mv:List Nat) (b:List Slot),(xC g mv b).length=b.length
 | [],_=>rfl
 | j :: r,b=>by rw [xC,QU g r];simp
theorem QV (g:Nat->Nat) (bs:List Slot):∀mv:List Nat,(zp g bs mv).length=mv.length
 | []=>rfl
 | j :: r=>by simp [zp,QV g bs r]
theorem RU (g:Nat->Nat) (bs:List Slot):∀(mv:List Nat) (i j:Nat),mv[i]?=some j->(zp g bs mv)[i]?=some (match bs[j]? with|some x=>nO g x|none=>.dead)
 | [],i,j,h=>by simp at h
 | k :: r,0,j,h=>by simp at h;subst h;rfl
 | k :: r,i+1,j,h=>by simpa [zp] using RU g bs r i j (by simpa using h)
theorem K4 (g:Nat->Nat):∀(mv:List Nat) (b:List Slot) (l:Nat),l < b.length->(xC g mv b)[l]?=if mv.any (λj=>Nat.beq (g j) l) then some .dead else b[l]?
 | [],b,l,_=>by simp [xC]
 | j :: r,b,l,hl=>by
  rw [xC,K4 g r _ l (by simpa using hl)]
  by_cases h1:r.any (λj=>Nat.beq (g j) l)=true
  ·simp [h1]
  ·simp only [h1,List.any_cons]
   by_cases h2:g j=l
   ·subst h2;simp [hl]
   ·have:Nat.beq (g j) l=false:=by rw [<-Bool.not_eq_true,yX];exact h2
    simp [this,fS h2]
theorem LX (g:Nat->Nat) (sk:Nat->Bool):∀(bs:List Slot) (j:Nat) (b:List Slot) (l:Nat),l < b.length ->
  (∀i i',i < bs.length->i' < bs.length->sk (j+i)=false->sk (j+i')=false->g (j+i)=l->g (j+i')=l->i=i') ->
  (rX g sk j bs b)[l]?=match (List.range bs.length).find? (λi=>!sk (j+i)&&Nat.beq (g (j+i)) l) with
   | some i=>(bs[i]?).map (nO g)
   | none=>b[l]?
 | [],j,b,l,_,_=>by simp [rX]
 | x :: r,j,b,l,hl,hd=>by
  have jr:l < (match sk j with|true=>b|false=>b.set (g j) (nO g x)).length:=by split<;>simpa using hl
  have e:∀i,j+1+i=j+(i+1):=λi=>by omega
  rw [rX,LX g sk r (j+1) _ l jr (λi i' h1 h2 h3 h4 h5 h6=>by
   rw [e] at h3 h5
   rw [e] at h4 h6
   have:=hd (i+1) (i'+1) (by simpa using h1) (by simpa using h2) h3 h4 h5 h6
   omega)]
  rw [mY,List.range_succ_eq_map,List.find?_cons,List.find?_map]
  simp only [rK,e]
  by_cases h0:(!sk j&&Nat.beq (g j) l)=true
  ·simp only [h0]
   simp only [b9,mX,yX] at h0
   have Nh:(List.range r.length).find? (λi=>!sk (j+(i+1))&&Nat.beq (g (j+(i+1))) l)=none:=by
    rw [Lr]
    intro i hi hc
    simp only [b9,mX,yX] at hc
    have:=hd 0 (i+1) (by simp) (by simpa using hi) (by simpa using h0.1) hc.1 (by simpa using h0.2) hc.2
    omega
   rw [Nh]
   simp only [h0.1]
   rw [<-h0.2,nL (by rw [h0.2];exact hl)]
   rfl
  ·have py:(!sk j&&Nat.beq (g j) l)=false:=by cases hq:(!sk j&&Nat.beq (g j) l) with|false=>rfl|true=>exact absurd hq h0
   simp only [py,Hi]
   have hb:(match sk j with|true=>b|false=>b.set (g j) (nO g x))[l]?=b[l]?:=by
    cases hs:sk j with
    | true=>rfl
    | false =>
     rw [hs] at py
     simp only [Bool.not_false,DK] at py
     exact fS (λe=>by rw [e] at py;simp at py)
   rw [hb]
   cases (List.range r.length).find? (λi=>!sk (j+(i+1))&&Nat.beq (g (j+(i+1))) l) with
   | none=>rfl
   | some i=>simp
theorem Mn:∀xs:List SV,oT xs xs
 | []=>trivial
 | x :: r=>by
  simp only [oT]
  split
  ·exact Mn r
  ·exact ⟨.refl _,Mn r⟩
theorem SL:∀{io:List Slot} {L:List Nat} {n:Nat} {seen:List Nat},zW io L n seen=true->L.length=io.length /\
  (∀(i:Nat) (x:Slot) (l:Nat),io[i]?=some x->L[i]?=some l->l < n\/x=.dead)/\(∀(i l:Nat),L[i]?=some l->l < n->l∉seen) /\
  (∀(i i' l:Nat),L[i]?=some l->L[i']?=some l->l < n->i=i')
 | [],[],n,seen,_=>by simp
 | [],_ :: _,_,_,h=>by simp [zW] at h
 | _ :: _,[],_,_,h=>by simp [zW] at h
 | x :: r,l :: ls,n,seen,h=>by
  simp only [zW,b9] at h
  obtain ⟨h1,h2⟩:=h
  obtain ⟨g1,g2,g3,g4⟩:=SL h2
  have yc:(l < n->l∉seen)/\(l < n\/x=.dead):=by
   split at h1
   ·rename_i e
    have:l < n:=Bt e
    simp only [mX,<-Bool.not_eq_true,vA] at h1
    exact ⟨λ_=>h1,.inl this⟩
   ·rename_i e
    have e:¬l < n:=λh=>by
     have:=sZ h
     unfold Nat.blt at e
     rw [this] at e
     cases e
    refine ⟨λh=>absurd h e,.inr ?_⟩
    split at h1
    ·rfl
    ·cases h1
  refine ⟨by simp [g1],?_,?_,?_⟩
  ·intro i y l' hy hl
   cases i with
   | zero=>simp at hy hl;subst hy hl;exact yc.2
   | succ i=>exact g2 i y l' (by simpa using hy) (by simpa using hl)
  ·intro i l' hl hn
   cases i with
   | zero=>simp at hl;subst hl;exact yc.1 hn
   | succ i=>exact λhm=>g3 i l' (by simpa using hl) hn (qE _ hm)
  ·intro i i' l' hi j5 hn
   cases i with
   | zero =>
    simp at hi;subst hi
    cases i' with
    | zero=>rfl
    | succ i'=>exact absurd (Ls) (g3 i' l (by simpa using j5) hn)
   | succ i =>
    cases i' with
    | zero=>simp at j5;subst j5;exact absurd (Ls) (g3 i l (by simpa using hi) hn)
    | succ i'=>rw [g4 i i' l' (by simpa using hi) (by simpa using j5) hn]
theorem Uz (mv:List Nat):∀(b:List Slot) (j m:Nat),j+b.length<=m->kX (Nat.ble m) (pj mv j b)=false
 | [],_,_,_=>rfl
 | x :: r,j,m,h=>by
  simp only [pj,kX,Uz mv r (j+1) m (by simp at h;omega),Bool.or_false]
  have hj:Nat.ble m j=false:=by
   cases e:Nat.ble m j with
   | false=>rfl
   | true=>have:=Bt e;simp at h;omega
  split
  ·rfl
  ·cases x<;>simp [nZ,iE,hj]
theorem UA {L:List Nat} {d j l:Nat} (h:L[j]?=some l):tO L d j=l:=by unfold tO;rw [h]
theorem UB {L:List Nat} {d j:Nat} (h:L[j]?=none):tO L d j=d:=by unfold tO;rw [h]
theorem iW.io {P:Unit->Program} {fid:FuncId} {Sp:nU} (I:l5 P fid Sp) {S args:List SV} {b:List Slot} {k:List Slot->SV->Prop} (a:Sp.α) (L:List Nat)
  (iw:zW (Sp.io a) L b.length []=true) (lB:cO args (oM (tO L b.length) (Sp.args a))) (Pp:lL b (rX (tO L b.length) (λ_=>false) 0 (Sp.io a) b))
  (dR:vY λ_=>Sp.pre a) (hk:∀y,Hyp (λ_=>Sp.post a y)->k (MH b L Sp.mv (Sp.ld a y)) (eC (zX b.length L Sp.mv) (Sp.res a y))):iW S P fid args b k:=by
 refine ⟨λf η H ac w hS hd D=>?_⟩
 obtain ⟨hlen,aP,_,I6⟩:=SL iw
 let io:=Sp.io a
 let n:=b.length
 let σ:=tO L n
 let b1:=rX σ (λ_=>false) 0 io b
 have ov:b1.length=n:=KN _ _ _ _ _
 have D1:Den f ⟨args,b1⟩ η H ac w:=D.weaken ⟨Mn _,Pp⟩
 have σL:∀i,i < io.length->∃l,L[i]?=some l/\σ i=l:=λi hi=>⟨_,eG (by rw [hlen];exact hi),UA (eG (by rw [hlen];exact hi))⟩
 have aim:∀i,io.length<=i->σ i=n:=λi hi=>UB (oD (by rw [hlen];exact hi))
 have Ch:∀i i' l,i < io.length->i' < io.length->σ i=l->σ i'=l->l < n->i=i':=by
  intro i i' l h1 h2 h3 h4 h5
  obtain ⟨l1,a1,a2⟩:=σL i h1
  obtain ⟨l2,c1,c2⟩:=σL i' h2
  exact I6 i i' l (by rw [a1,<-a2,h3]) (by rw [c1,<-c2,h4]) h5
 have CK:∀i x,io[i]?=some x->σ i < n\/x=.dead:=by
  intro i x hx
  obtain ⟨l,a1,a2⟩:=σL i (bf.1 hx).1
  rw [a2];exact aP i x l hx a1
 have Xm:∀l,l < n->b1[l]?=match (List.range io.length).find? (λi=>Nat.beq (σ i) l) with
   | some i=>(io[i]?).map (nO σ)
   | none=>b[l]?:=by
  intro l hl
  have:=LX σ (λ_=>false) io 0 b l hl (λi i' h1 h2 _ _ h3 h4=>by
   simp only [mZ] at h3 h4
   exact Ch i i' l h1 h2 h3 h4 hl)
  simpa using this
 have find:∀i l,i < io.length->σ i=l->l < n->(List.range io.length).find? (λi=>Nat.beq (σ i) l)=some i:=by
  intro i l h1 h2 h3
  cases hf:(List.range io.length).find? (λi=>Nat.beq (σ i) l) with
  | none =>
   rw [Lr] at hf
   exact absurd (by simpa using h2) (hf i (by simpa using h1))
  | some i' =>
   have g1:=Ho hf
   have g2:=He hf
   simp at g1 g2
   rw [Ch i i' l h1 g2 h2 g1 h3]
 have FT:∀i x,io[i]?=some x->σ i < n->b1[σ i]?=some (nO σ x):=by
  intro i x hx hl
  rw [Xm _ hl,find i _ (bf.1 hx).1 rfl hl]
  simp only [hx]
  rfl
 have q1:∀i,Live.un=aO b1 (σ i)\/aO io i=aO b1 (σ i)\/aO io i=.dead:=by
  intro i
  cases hx:io[i]? with
  | none =>
   left
   rw [aim i (by simpa using hx)]
   simp [aO,ov]
  | some x =>
   rcases CK i x hx with h|h
   ·right;left
    rw [bX (FT i x hx h),bX hx,rE]
   ·right;right
    rw [bX hx,h];rfl
 have EC:∀i,aO io i=.live->σ i < n/\i < io.length:=by
  intro i h
  obtain ⟨x,hx,hl⟩:=qM h
  rcases CK i x hx with h|h
  ·exact ⟨h,(bf.1 hx).1⟩
  ·rw [h] at hl;cases hl
 let η':Nat->Value:=λi=>η (σ i)
 have T1:gQ η' η' (λi=>aO b1 (σ i)) (aO io):=by
  intro i
  rcases q1 i with h|h|h
  ·show match aO b1 (σ i) with|.un=>True|.dead=>_|.live=>_
   rw [<-h];trivial
  ·show match aO b1 (σ i) with|.un=>True|.dead=>_|.live=>_
   rw [<-h]
   cases hq:aO io i<;>simp
  ·show match aO b1 (σ i) with|.un=>True|.dead=>_|.live=>_
   cases hq:aO b1 (σ i)<;>simp [h]
 have N1:∀(i:Nat) (x:Slot),io[i]?=some x->iU η' (aO io) H w i x:=by
  intro i x hx
  rcases CK i x hx with h|h
  ·exact (RT.1 (D1.sl _ _ (FT i x hx h))).I8 T1 λ_=>rfl
  ·rw [h];trivial
 let F':aZ:=λbl=>@ite _ (∃l,aO b1 l=.live/\(∀i,i < io.length->σ i≠l)/\bY (η l)=some bl) (Classical.propDecidable _) (w.heap[bl]?) (f.F bl)
 have Nr:∀bl o,f.F bl=some o->F' bl=some o:=by
  intro bl o h
  simp only [F']
  split
  ·rename_i hc
   obtain ⟨l,h1,_,h2⟩:=hc
   rw [(D1.dh l bl h1 h2).2] at h
   cases h
  ·exact h
 have ag5:∀l bl,aO b1 l=.live->(∀i,i < io.length->σ i≠l)->bY (η l)=some bl->F' bl=w.heap[bl]?:=by
  intro l bl h1 h2 h3
  simp only [F']
  rw [if_pos ⟨l,h1,h2,h3⟩]
 have ain:∀i bl,aO io i=.live->bY (η' i)=some bl->F' bl=f.F bl:=by
  intro i bl h1 h2
  simp only [F']
  rw [if_neg]
  rintro ⟨l,g1,g2,g3⟩
  obtain ⟨h3,h4⟩:=EC i h1
  have hq:aO b1 (σ i)=.live:=by
   rcases q1 i with h|h|h
   ·obtain ⟨x,hx,hl⟩:=qM h1
    rw [bX (FT i x hx h3),rE,hl]
   ·rw [<-h];exact h1
   ·rw [h1] at h;cases h
  exact g2 i h4 (D1.dj (σ i) l bl hq g1 h2 g3)
 have qZ:∀i,aO io i=.live->aO b1 (σ i)=.live:=by
  intro i h1
  obtain ⟨h3,h4⟩:=EC i h1
  obtain ⟨x,hx,hl⟩:=qM h1
  rw [bX (FT i x hx h3),rE,hl]
 let f':Fr:={ F:=F',H0:=H,w0:=w,sS:=pj Sp.mv 0 io,sV:=vW η' 0 io,dS:=[] }
 have afz:aL η' (aO io) H (Sp.args a) ac.tmps.toList:=gm T1 (aZ.le.refl H) _ _ ((mq _ _).1 (iN lB D1.t))
 have D':Den f' ⟨Sp.args a,io⟩ η' H ⟨ac.tmps,[]⟩ w:={
  t:=afz
  sv:=Uy Sp.mv io 0 λl x hx=>by
   rw [mZ]
   exact ⟨N1 l x hx,bX hx⟩
  d:=rfl
  h0:=aZ.le.refl H
  hw:=D1.hw
  fw:=λbl o h=>by
   simp only [f',F'] at h
   split at h
   ·exact h
   ·exact D1.fw bl o h
  hf:=λbl h=>.inl h
  sl:=λl x hx=>N1 l x hx
  dj:=λl l' bl h1 h2 h3 h4=>by
   have:=D1.dj (σ l) (σ l') bl (qZ l h1) (qZ l' h2) h3 h4
   exact Ch l l' _ (EC l h1).2 (EC l' h2).2 rfl this.symm (EC l h1).1
  dh:=λl bl h1 h2=>⟨(D1.dh (σ l) bl (qZ l h1) h2).1,(ain l bl h1 h2).trans (D1.dh (σ l) bl (qZ l h1) h2).2⟩
  os:=rfl
  tape:=rfl
  out:=rfl }
 refine ((I.run a dR.out).out f' η' H ⟨ac.tmps,[]⟩ w rfl rfl D').mono ?_
 rintro e w' ⟨v,b2,η2,H2,xv,rfl,⟨y,fr,own,k1,k2,k3⟩,D2,r2⟩
 have D2v:Den f' ⟨[xv],b2⟩ η2 H2 ⟨#[v],[]⟩ w':={ D2 with t:=by simp only [aL];exact ⟨v,[],rfl,r2,rfl⟩ }
 obtain ⟨H3,D3⟩:=Den.sd fr D2v
 obtain ⟨η3,D4⟩:=D3.sa (S:=pj Sp.mv 0 io) rfl own
 have N2:kX (Nat.ble io.length) f'.sS=false:=Uz Sp.mv io 0 io.length (by omega)
 have D5:Den f' ⟨[Sp.res a y],Sp.ld a y⟩ η3 H3 ⟨#[v],[]⟩ w':=(D4.cut io.length N2).weaken ⟨k1,k2⟩
 let bs:=Sp.ld a y
 have je:bs.length=io.length:=I.len a y
 let g:=zX n L Sp.mv
 have E6:∀(i:Nat) (x:Slot),bs[i]?=some x->fj i Sp.mv=false->∃z,io[i]?=some z/\z.live=.live:=λi x hx hm =>
  ⟨_,eG (by rw [<-je];exact (bf.1 hx).1),I.old a i _ (eG (by rw [<-je];exact (bf.1 hx).1)) hm⟩
 have gN:∀i,fj i Sp.mv=true->g i=n+Cg i Sp.mv:=λi h=>by simp only [g,zX,h]
 have gO:∀i,fj i Sp.mv=false->i < io.length->g i=σ i:=λi h hi=>by
  obtain ⟨l,a1,a2⟩:=σL i hi
  simp only [g,zX,h]
  rw [a2];exact UA a1
 have gX:∀i,fj i Sp.mv=false->io.length<=i->g i=n+Sp.mv.length:=λi h hi=>by
  simp only [g,zX,h]
  exact UB (oD (by rw [hlen];exact hi))
 have IM:∀i,fj i Sp.mv=true->i < io.length:=λi h=>I.mv.2 a i (vA.1 h)
 let bk:=xC σ Sp.mv b
 have JV:bk.length=n:=QU _ _ _
 let bn:=MH b L Sp.mv bs
 have Pq:bn=rX g (λj=>fj j Sp.mv) 0 bs bk++zp g bs Sp.mv:=rfl
 have Je:(rX g (λj=>fj j Sp.mv) 0 bs bk).length=n:=by rw [KN,JV]
 have Xn:∀l,l < n->bn[l]?=match (List.range bs.length).find? (λi=>!fj i Sp.mv&&Nat.beq (g i) l) with
   | some i=>(bs[i]?).map (nO g)
   | none=>bk[l]?:=by
  intro l hl
  rw [Pq,jk (by rw [Je];exact hl)]
  have:=LX g (λj=>fj j Sp.mv) bs 0 bk l (by rw [JV];exact hl) (λi i' h1 h2 h3 h4 h5 h6=>by
   simp only [mZ] at h3 h4 h5 h6
   rw [je] at h1 h2
   rw [gO i h3 h1] at h5
   rw [gO i' h4 h2] at h6
   exact Ch i i' l h1 h2 h5 h6 hl)
  simpa using this
 have E7:∀i,i < io.length->σ i < n->fj i Sp.mv=false->bn[σ i]?=(bs[i]?).map (nO g):=by
  intro i hi hl hm
  rw [Xn _ hl]
  cases hf:(List.range bs.length).find? (λj=>!fj j Sp.mv&&Nat.beq (g j) (σ i)) with
  | none =>
   rw [Lr] at hf
   have:=hf i (by rw [mr,je];exact hi)
   rw [hm,gO i hm hi] at this
   simp at this
  | some i' =>
   have g1:=Ho hf
   have g2:=He hf
   simp only [b9,mX,yX,mr,je] at g1 g2
   have e:=g1.2
   rw [gO i' g1.1 g2] at e
   rw [Ch i' i (σ i) g2 hi e rfl hl]
 have Wu:∀l,l < n->(∀i,i < io.length->fj i Sp.mv=false->σ i≠l)->bn[l]?=bk[l]?:=by
  intro l hl dC
  rw [Xn _ hl]
  cases hf:(List.range bs.length).find? (λj=>!fj j Sp.mv&&Nat.beq (g j) l) with
  | none=>rfl
  | some i' =>
   have g1:=Ho hf
   have g2:=He hf
   simp only [b9,mX,yX,mr,je] at g1 g2
   have e:=g1.2
   rw [gO i' g1.1 g2] at e
   exact absurd e (dC i' g2 g1.1)
 have N3:∀i,σ i < n->fj i Sp.mv=true->bn[σ i]?=some .dead:=by
  intro i hl hm
  rw [Wu _ hl,K4 σ Sp.mv b _ hl,if_pos]
  ·rw [Hl];exact ⟨i,vA.1 hm,by simp⟩
  ·intro i' h1 h2 h3
   rw [Ch i' i _ h1 (IM i hm) h3 rfl hl,hm] at h2
   cases h2
 have N4:∀l,l < n->(∀i,i < io.length->σ i≠l)->bn[l]?=b1[l]?:=by
  intro l hl dC
  rw [Wu l hl λi h1 _=>dC i h1,K4 σ Sp.mv b _ hl,if_neg,Xm l hl]
  ·cases hf:(List.range io.length).find? (λi=>Nat.beq (σ i) l) with
   | none=>rfl
   | some i' =>
    have g1:=Ho hf
    have g2:=He hf
    simp at g1 g2
    exact absurd g1 (dC i' g2)
  ·intro h
   rw [Hl] at h
   obtain ⟨i,h1,h2⟩:=h
   exact dC i (IM i (vA.2 h1)) (lU h2)
 have MY:∀i j,Sp.mv[i]?=some j->bn[n+i]?=(bs[j]?).map (nO g):=by
  intro i j h
  have hj:j < bs.length:=by rw [je];exact IM j (vA.2 (cM h))
  rw [Pq,qB (by rw [Je];omega),Je,Lf,RU g bs Sp.mv i j h,eG hj]
  rfl
 have aio:bn.length=n+Sp.mv.length:=by rw [Pq,gn,Je,QV]
 have atG:∀i x,bs[i]?=some x->x.live=.live->bn[g i]?=some (nO g x):=by
  intro i x hx hl
  have hi:i < io.length:=by rw [<-je];exact (bf.1 hx).1
  cases hm:fj i Sp.mv with
  | true=>rw [gN i hm,MY _ _ (Ed hm),hx];rfl
  | false =>
   obtain ⟨z,hz,iH⟩:=E6 i x hx hm
   have:σ i < n:=by
    rcases CK i z hz with h|h
    ·exact h
    ·rw [h] at iH;cases iH
   rw [gO i hm hi,E7 i hi this hm,hx];rfl
 let ηn:Nat->Value:=λl=>if l < n then η l else match Sp.mv[l - n]? with
  | some j=>η3 j
  | none=>.nilIface
 have aip:∀i x,bs[i]?=some x->x.live=.live->fj i Sp.mv=false->η3 i=η' i:=by
  intro i x hx hl hm
  obtain ⟨z,hz,iH⟩:=E6 i x hx hm
  obtain ⟨t1,t2⟩:=TO η' Sp.mv io 0 i z hz (by rw [mZ];exact hm)
  rw [mZ] at t1 t2
  obtain ⟨u,hu,hr⟩:=rL D5.sv i _ t1
  have:(vW η' 0 io)[i]?=some u:=hu
  rw [t2] at this
  simp at this
  subst this
  exact afy iH (N1 i z hz) (by rw [bX hx];exact hl) hr
 have ηG:∀i x,bs[i]?=some x->x.live=.live->ηn (g i)=η3 i:=by
  intro i x hx hl
  have hi:i < io.length:=by rw [<-je];exact (bf.1 hx).1
  cases hm:fj i Sp.mv with
  | true =>
   rw [gN i hm]
   simp only [ηn]
   rw [if_neg (by omega),Lf,Ed hm]
  | false =>
   obtain ⟨z,hz,iH⟩:=E6 i x hx hm
   have aP:σ i < n:=by
    rcases CK i z hz with h|h
    ·exact h
    ·rw [h] at iH;cases iH
   rw [gO i hm hi]
   simp only [ηn]
   rw [if_pos aP]
   exact (aip i x hx hl hm).symm
 have TG:gQ η3 (λi=>ηn (g i)) (aO bs) (λi=>aO bn (g i)):=by
  intro i
  cases hq:aO bs i with
  | un=>trivial
  | live =>
   obtain ⟨x,hx,hl⟩:=qM hq
   left
   exact ⟨by show aO bn (g i)=.live;rw [bX (atG i x hx hl),rE,hl],ηG i x hx hl⟩
  | dead =>
   show aO bn (g i)=.dead
   have hx:∃x,bs[i]?=some x/\x.live=.dead:=by
    unfold aO at hq
    split at hq
    ·exact ⟨_,by assumption,hq⟩
    ·cases hq
   obtain ⟨x,hx,hl⟩:=hx
   have hi:i < io.length:=by rw [<-je];exact (bf.1 hx).1
   cases hm:fj i Sp.mv with
   | true=>rw [gN i hm,bX (by rw [MY _ _ (Ed hm),hx];rfl),rE,hl]
   | false =>
    rw [gO i hm hi]
    by_cases aP:σ i < n
    ·rw [bX (by rw [E7 i hi aP hm,hx];rfl),rE,hl]
    ·obtain ⟨z,hz,iH⟩:=E6 i x hx hm
     rcases CK i z hz with h|h
     ·exact absurd h aP
     ·rw [h] at iH;cases iH
 have TB:gQ η ηn (aO b1) (aO bn):=by
  intro l
  cases hq:aO b1 l with
  | un=>trivial
  | live =>
   obtain ⟨x,hx,hl⟩:=qM hq
   have jF:l < n:=by rw [<-ov];exact (bf.1 hx).1
   by_cases hc:∃i,i < io.length/\σ i=l
   ·obtain ⟨i,hi,rfl⟩:=hc
    cases hm:fj i Sp.mv with
    | true=>right;rw [bX (N3 i jF hm)];rfl
    | false =>
     have qU:bs[i]?=some bs[i]:=eG (by rw [je];exact hi)
     have e:=E7 i hi jF hm
     rw [qU] at e
     cases hz:(bs[i]).live with
     | un =>
      exfalso
      have:bs[i]=.un:=by cases hy:bs[i]<;>rw [hy] at hz<;>first|rfl|cases hz
      exact I.nu a y i (by rw [<-this];exact qU)
     | dead=>right;rw [bX e,rE,hz]
     | live =>
      left
      refine ⟨by rw [bX e,rE,hz],?_⟩
      simp only [ηn];rw [if_pos jF]
   ·left
    refine ⟨by rw [bX ((N4 l jF λi hi e=>hc ⟨i,hi,e⟩).trans hx),hl],?_⟩
    simp only [ηn];rw [if_pos jF]
  | dead =>
   show aO bn l=.dead
   have hx:∃x,b1[l]?=some x/\x.live=.dead:=by
    unfold aO at hq
    split at hq
    ·exact ⟨_,by assumption,hq⟩
    ·cases hq
   obtain ⟨x,hx,hl⟩:=hx
   have jF:l < n:=by rw [<-ov];exact (bf.1 hx).1
   by_cases hc:∃i,i < io.length/\σ i=l
   ·obtain ⟨i,hi,rfl⟩:=hc
    cases hm:fj i Sp.mv with
    | true=>rw [bX (N3 i jF hm)];rfl
    | false =>
     have qU:bs[i]?=some bs[i]:=eG (by rw [je];exact hi)
     have e:=E7 i hi jF hm
     rw [qU] at e
     rw [bX e,rE]
     cases hz:(bs[i]).live with
     | un =>
      exfalso
      have:bs[i]=.un:=by cases hy:bs[i]<;>rw [hy] at hz<;>first|rfl|cases hz
      exact I.nu a y i (by rw [<-this];exact qU)
     | dead=>rfl
     | live =>
      exfalso
      obtain ⟨z,Pr,iH⟩:=E6 i _ qU hm
      have:=FT i z Pr jF
      rw [hx] at this
      simp at this
      rw [this,rE,iH] at hl
      cases hl
   ·rw [bX ((N4 l jF λi hi e=>hc ⟨i,hi,e⟩).trans hx),hl]
 have cls:∀l x,bn[l]?=some x->x.live=.live->(∃i z,bs[i]?=some z/\z.live=.live/\g i=l/\x=nO g z)\/(l < n/\b1[l]?=some x/\∀i,i < io.length->σ i≠l):=by
  intro l x hx hl
  by_cases jF:l < n
  ·by_cases hc:∃i,i < io.length/\σ i=l
   ·obtain ⟨i,hi,rfl⟩:=hc
    cases hm:fj i Sp.mv with
    | true =>
     rw [N3 i jF hm] at hx
     simp at hx;subst hx;cases hl
    | false =>
     left
     have qU:bs[i]?=some bs[i]:=eG (by rw [je];exact hi)
     rw [E7 i hi jF hm,qU] at hx
     simp at hx;subst hx
     exact ⟨i,_,qU,by rw [rE] at hl;exact hl,gO i hm hi,rfl⟩
   ·right
    have dC:∀i,i < io.length->σ i≠l:=λi hi e=>hc ⟨i,hi,e⟩
    exact ⟨jF,by rw [<-N4 l jF dC];exact hx,dC⟩
  ·left
   have l9:=(bf.1 hx).1
   rw [aio] at l9
   obtain ⟨j,hj⟩:∃j,Sp.mv[l - n]?=some j:=⟨_,eG (by omega)⟩
   have e:=MY _ _ hj
   rw [show n+(l - n)=l by omega,hx] at e
   have FU:fj j Sp.mv=true:=vA.2 (cM hj)
   have ei:j < bs.length:=by rw [je];exact IM j FU
   have YG:bs[j]?=some bs[j]:=eG ei
   rw [YG] at e
   simp at e;subst e
   refine ⟨j,_,YG,by rw [rE] at hl;exact hl,?_,rfl⟩
   rw [gN j FU,aez I.mv.1 hj];omega
 have E8:∀i z,bs[i]?=some z->z.live=.live->∀bl,bY (ηn (g i))=some bl->bY (η3 i)=some bl:=λi z h1 h2 bl h=>by rw [ηG i z h1 h2] at h;exact h
 have E9:∀l x,l < n->b1[l]?=some x->x.live=.live->∀bl,bY (ηn l)=some bl->bY (η l)=some bl:=λl x h1 h2 h3 bl h=>by
  simp only [ηn] at h;rw [if_pos h1] at h;exact h
 have others:∀l bl,aO b1 l=.live->(∀i,i < io.length->σ i≠l)->bY (η l)=some bl->∃o,w.heap[bl]?=some o/\F' bl=some o/\w'.heap[bl]?=some o:=by
  intro l bl h1 h2 h3
  have hb:=D1.zd h1 h3
  have e:=ag5 l bl h1 h2 h3
  rw [sY hb] at e
  exact ⟨_,sY hb,e,D5.fw bl _ e⟩
 have Dn:Den f ⟨[],bn⟩ ηn H3 ⟨#[],[]⟩ w':={
  t:=by simp [aL]
  sv:=gm TB D5.h0 _ _ D1.sv
  d:=by rw [hd];rfl
  h0:=D1.h0.trans D5.h0
  hw:=D5.hw
  fw:=λbl o h=>D5.fw bl o (Nr bl o h)
  hf:=λbl h=>by
   rcases D5.hf bl h with h1|h1
   ·exact D1.hf bl h1
   ·right
    cases hF:f.F bl with
    | none=>rfl
    | some o=>have h1:F' bl=none:=h1;rw [Nr bl o hF] at h1;cases h1
  sl:=λl x hx=>by
   cases hl:x.live with
   | live =>
    rcases cls l x hx hl with ⟨i,z,hz,iH,rfl,rfl⟩|⟨jF,u5,dC⟩
    ·refine RT.2 ?_
     exact (D5.sl i z hz).I8 TG λ_=>ηG i z hz iH
    ·refine (D1.sl l x u5).kept TB D5.h0 (by simp only [ηn];rw [if_pos jF]) λbl hb=>?_
     obtain ⟨o,h1,_,h2⟩:=others l bl (by rw [bX u5];exact hl) dC hb
     rw [h1,h2]
   | un=>cases x<;>first|trivial|cases hl
   | dead=>cases x<;>first|trivial|cases hl
  dj:=λl l' bl h1 h2 h3 h4=>by
   obtain ⟨x,hx,hl⟩:=qM h1
   obtain ⟨x',jD,jr⟩:=qM h2
   rcases cls l x hx hl with ⟨i,z,hz,iH,rfl,rfl⟩|⟨jF,u5,dC⟩<;>rcases cls l' x' jD jr with ⟨i',z',Ak,Jf,rfl,rfl⟩|⟨Xo,Jg,aiq⟩
   ·rw [D5.dj i i' bl (by rw [bX hz];exact iH) (by rw [bX Ak];exact Jf) (E8 i z hz iH bl h3) (E8 i' z' Ak Jf bl h4)]
   ·exfalso
    obtain ⟨o,_,e,_⟩:=others l' bl (by rw [bX Jg];exact jr) aiq (E9 l' x' Xo Jg jr bl h4)
    have:=(D5.dh i bl (by rw [bX hz];exact iH) (E8 i z hz iH bl h3)).2
    have:F' bl=none:=this
    rw [e] at this;cases this
   ·exfalso
    obtain ⟨o,_,e,_⟩:=others l bl (by rw [bX u5];exact hl) dC (E9 l x jF u5 hl bl h3)
    have:=(D5.dh i' bl (by rw [bX Ak];exact Jf) (E8 i' z' Ak Jf bl h4)).2
    have:F' bl=none:=this
    rw [e] at this;cases this
   ·exact D1.dj l l' bl (by rw [bX u5];exact hl) (by rw [bX Jg];exact jr) (E9 l x jF u5 hl bl h3) (E9 l' x' Xo Jg jr bl h4)
  dh:=λl bl h1 h2=>by
   obtain ⟨x,hx,hl⟩:=qM h1
   rcases cls l x hx hl with ⟨i,z,hz,iH,rfl,rfl⟩|⟨jF,u5,dC⟩
   ·obtain ⟨e1,e2⟩:=D5.dh i bl (by rw [bX hz];exact iH) (E8 i z hz iH bl h2)
    refine ⟨e1,?_⟩
    cases hF:f.F bl with
    | none=>rfl
    | some o=>have e2:F' bl=none:=e2;rw [Nr bl o hF] at e2;cases e2
   ·have hb:=E9 l x jF u5 hl bl h2
    have hq:aO b1 l=.live:=by rw [bX u5];exact hl
    obtain ⟨o,_,e,_⟩:=others l bl hq dC hb
    refine ⟨?_,(D1.dh l bl hq hb).2⟩
    cases hH:H3 bl with
    | none=>rfl
    | some o' =>
     rcases D5.hf bl (by rw [hH];simp) with h|h
     ·exact absurd (D1.dh l bl hq hb).1 h
     ·have h:F' bl=none:=h
      rw [e] at h;cases h
  os:=D5.os.trans D1.os
  tape:=D5.tape.trans D1.tape
  out:=D5.out.trans D1.out }
 have JW:rel ηn (aO bn) H3 (eC g (Sp.res a y)) v:=by
  have:=D5.t
  simp only [aL] at this
  obtain ⟨u,us,e,h1,rfl⟩:=this
  simp at e;subst e
  exact (xq _ _).2 (s6 TG (aZ.le.refl _) _ _ h1)
 exact ⟨v,bn,ηn,H3,_,rfl,hk y ⟨k3.out⟩,Dn,JW⟩
def Wv (x:Slot):Bool:=match x.live with
 | .live=>true
 | _=>false
def zY (mv:List Nat):Nat->List Slot->Bool
 | _,[]=>true
 | j,x :: r=>(fj j mv||Wv x)&&zY mv (j+1) r
def CL:List Slot->Bool
 | []=>true
 | .un :: _=>false
 | _ :: r=>CL r
def CM (n:Nat):List Nat->Bool
 | []=>true
 | j :: r=>Nat.blt j n&&!fj j r&&CM n r
def JX (mv:List Nat) (io ld:List Slot):Bool:=Nat.beq ld.length io.length&&zY mv 0 io&&CL ld&&CM io.length mv
theorem UC {mv:List Nat}:∀{io:List Slot} {j0:Nat},zY mv j0 io=true->∀(j:Nat) (z:Slot),io[j]?=some z->fj (j0+j) mv=false->z.live=.live
 | [],_,_,j,z,h,_=>by simp at h
 | x :: r,j0,h,0,z,hz,he=>by
  simp at hz;subst hz
  simp only [zY,b9,nM] at h
  simp only [rK] at he
  rw [he] at h
  have h1:=h.1
  simp only [mV,false_or] at h1
  unfold Wv at h1
  split at h1
  ·assumption
  ·cases h1
 | x :: r,j0,h,j+1,z,hz,he=>by
  simp only [zY,b9] at h
  exact UC h.2 j z (by simpa using hz) (by rw [show j0+1+j=j0+(j+1) by omega];exact he)
theorem Vk:∀{io:List Slot},CL io=true->∀j:Nat,io[j]?≠some .un
 | [],_,j=>by simp
 | x :: r,h,0=>by
  intro e
  simp at e;subst e
  simp [CL] at h
 | x :: r,h,j+1=>by
  have:CL r=true:=by cases x<;>first|exact h|simp [CL] at h
  simpa using Vk this j
theorem Vl {n:Nat}:∀{mv:List Nat},CM n mv=true->mv.Nodup/\∀j∈mv,j < n
 | [],_=>by simp
 | j :: r,h=>by
  simp only [CM,b9,mX] at h
  obtain ⟨⟨h1,h2⟩,h3⟩:=h
  obtain ⟨g1,g2⟩:=Vl h3
  refine ⟨yR.2 ⟨λhm=>?_,g1⟩,λi hi=>?_⟩
  ·rw [vA.2 hm] at h2;cases h2
  ·rcases cv.1 hi with rfl|hi
   ·exact Bt h1
   ·exact g2 i hi
structure Xp (PP:Unit->Program) (X:Ctx) (lv:Nat) (fn:Func) (Sp:nU) (a:Sp.α):Prop where
 out:match fn.body with
  | some c=>tN (pj Sp.mv 0 (Sp.io a)) false PP X lv c (start (Sp.args a) fn.ntmps (Sp.io a)) (v7 X fn.results.toList (YF Sp a))
  | none=>False
theorem ado {PP:Unit->Program} {X:Ctx} (C:X.Ok (PP ())) (IL:lC X) {lv:Nat} {fid:FuncId} {fn:Func} (F:kF (PP ()) fid fn) (j6:lV fn=true) {Sp:nU}
  (hw:∀a y,JX Sp.mv (Sp.io a) (Sp.ld a y)=true) (hm:∀a,zY Sp.mv 0 (Sp.io a)=true/\CM (Sp.io a).length Sp.mv=true) (Ps:Sp.mv.Nodup) (h0:∀a,Sp.pre a->Xp PP X lv fn Sp a):l5 PP fid Sp:=by
 obtain ⟨c,hb⟩:=qD.1 F.body
 have hc:codeOk c=true:=by unfold lV at j6;rw [hb] at j6;exact j6
 refine ⟨λa y=>?_,λa j z hz he=>?_,λa y j=>?_,⟨Ps,λa=>(Vl (hm a).2).2⟩,λa ha=>⟨λf η H ac w hS hd D=>?_⟩⟩
 ·have:=hw a y
  simp only [JX,b9] at this
  exact lU this.1.1.1
 ·exact UC (hm a).1 j z hz (by rw [mZ];exact he)
 ·have:=hw a y
  simp only [JX,b9] at this
  exact Vk this.1.2 j
 ·have h:=(h0 a ha).out
  rw [hb] at h
  exact Bx C F hb (w6 C IL hc h) f η H ac w hS hd D
end
structure pc:Type 1 where
 α:Type
 args:α->List SV
 pre:α->Prop
 β:Type
 post:α->β->Prop
 res:α->β->SV
structure sB (P:Unit->Program) (f:FuncId) (S:pc):Prop where
 lf:∀a,cj (S.args a)
 lr:∀a y,LF (S.res a y)
 run:∀a,S.pre a->∀(H F:aZ) (w:World) (vals:List Value),H.gR w->F.gR w->dg H (S.args a) vals ->
  Calls (P ()) f vals.toArray w λe w'=>∃y v H',S.post a y/\e=.returned v/\H.le H'/\H'.gR w'/\F.gR w' /\
   (∀b,H' b≠none->H b≠none\/F b=none)/\n9 H' (S.res a y) v/\w'.os=w.os/\w'.tape=w.tape/\w'.output=w.output
section
variable {P:Program} {X:Ctx} {f:Fr} {s s':St} {η:Nat->Value} {H:aZ} {a:Act} {w:World}
structure N5 (Sp:pc) (a:Sp.α) (b:List Slot) (v:SV):Prop where
 out:∃y,vY (λ_=>Sp.post a y)/\Po (Pn b v) (Sp.res a y)
theorem N5.mk' {Sp:pc} {a:Sp.α} {b:List Slot} {v:SV} (y:Sp.β) (h:Po (Pn b v) (Sp.res a y)) (hp:Sp.post a y):N5 Sp a b v:=⟨⟨y,⟨hp⟩,h⟩⟩
structure Ww (PP:Unit->Program) (X:Ctx) (lv:Nat) (fn:Func) (Sp:pc) (a:Sp.α):Prop where
 out:match fn.body with
  | some c=>vc PP X lv c (start (Sp.args a) fn.ntmps []) (v7 X fn.results.toList (N5 Sp a))
  | none=>False
theorem abq {PP:Unit->Program} {X:Ctx} (C:X.Ok (PP ())) (IL:lC X) {lv:Nat} {fid:FuncId} {fn:Func} (F:kF (PP ()) fid fn) (j6:lV fn=true) {S:pc}
  (ca:∀a,cj (S.args a)) (gu:∀a y,LF (S.res a y)) (h0:∀a,S.pre a->Ww PP X lv fn S a):sB PP fid S where
 lf:=ca
 lr:=gu
 run:=λα dR H F0 w vals hH hF iX=>by
  obtain ⟨c,hb⟩:=qD.1 F.body
  have hc:codeOk c=true:=by unfold lV at j6;rw [hb] at j6;exact j6
  have h:=(h0 α dR).out
  rw [hb] at h
  let f:Fr:={ F:=F0,H0:=H,w0:=w }
  have D:Den f ⟨S.args α,[]⟩ (λ_=>.nilIface) H { tmps:=vals.toArray,defers:=[] } w:={
   t:=dg.up (aZ.le.refl H) iX
   sv:=by simp [f,aL]
   d:=rfl
   h0:=aZ.le.refl H
   hw:=hH
   fw:=hF
   hf:=λb hb=>.inl hb
   sl:=λl x hx=>by simp at hx
   dj:=λl l' b h=>by simp [aO] at h
   dh:=λl b h=>by simp [aO] at h
   os:=rfl
   tape:=rfl
   out:=rfl }
  refine (Bx C F hb (w6 C IL hc h) f _ H _ w rfl rfl D).mono ?_
  rintro e w' ⟨v,b',η',H',xv,rfl,⟨y,hp,hk⟩,D2,h2⟩
  let G:aZ:=λb=>match H' b with
   | some o=>some o
   | none=>match F0 b with
    | some _=>none
    | none=>w'.heap[b]?
  have hle:H'.le G:=λb o hb=>by simp only [G];rw [hb]
  have hG:G.gR w':=λb o hb=>by
   simp only [G] at hb
   split at hb
   ·rename_i o' ho;simp at hb;subst hb;exact D2.hw b _ ho
   ·split at hb
    ·cases hb
    ·exact hb
  have BV:tu D2 G:=⟨hle,λl b hl hb=>by
   obtain ⟨e1,e2⟩:=D2.dh l b hl hb
   have kK:F0 b=none:=e2
   simp only [G,e1,kK]⟩
  have h3:=zh BV 6 _ _ h2
  have h4:=rS hk.out h3
  refine ⟨y,v,G,hp.out,rfl,D2.h0.trans hle,hG,D2.fw,λb hb=>?_,nS _ _ (gu α y) h4,D2.os,D2.tape,D2.out⟩
  by_cases wC:F0 b=none
  ·exact .inr wC
  ·left
   have gG:H' b≠none:=by
    intro e
    apply hb
    simp only [G,e]
    cases hq:F0 b with
    | none=>exact absurd hq wC
    | some _=>rfl
   rcases D2.hf b gG with h|h
   ·exact h
   ·exact absurd h wC
theorem iW.of {P:Unit->Program} {fid:FuncId} {Sp:pc} (I:sB P fid Sp) {S args:List SV} {b:List Slot} {k:List Slot->SV->Prop} (a:Sp.α)
  (lB:(cO (args.map (view b)) (Sp.args a)/\((∀y,(Sp.res a y).scalar=true)\/pn args=false))\/cO (uy args) (Sp.args a))
  (dR:vY λ_=>Sp.pre a) (hk:∀y,Hyp (λ_=>Sp.post a y)->k b (Sp.res a y)):iW S P fid args b k:=by
 refine ⟨λf η H ac w hS hd D=>?_⟩
 have fin:∀(Hc:aZ),Hc.gR w->dg Hc (Sp.args a) ac.tmps.toList ->
   (∀H' w' v y,Hc.le H'->H'.gR w'->w.grownBy w' none->(∀b,H' b≠none->Hc b≠none\/w.heap.size<=b)->n9 H' (Sp.res a y) v->∃H2,Den f ⟨args,b⟩ η H2 ac w'/\rel η (aO b) H2 (Sp.res a y) v)->Calls (P ()) fid ac.tmps w (xQ f k):=by
  intro Hc dw iX nk
  have:=I.run a dR.out Hc (gL w) w _ dw (wV w) iX
  rw [DB] at this
  refine this.mono λe w' ⟨y,v,H',hp,he,g1,g2,g3,g4,g5,g6,g7,g8⟩=>?_
  have e8:=GO g3 g6 g7 g8
  obtain ⟨H2,D',hr⟩:=nk H' w' v y g1 g2 e8 (λb hb=>by
   rcases g4 b hb with h|h
   ·exact .inl h
   ·right
    unfold gL at h
    simpa using h) g5
  have tG:(⟨#[],[]⟩:Act).defers=f.dS.map BR:=by rw [hd];rfl
  exact ⟨v,b,η,H2,_,he,hk y ⟨hp⟩,{ D' with t:=by simp [aL],d:=tG },hr⟩
 have ht:aL η (aO b) H args ac.tmps.toList:=D.t
 have plain:cO args (Sp.args a)->Calls (P ()) fid ac.tmps w (xQ f k):=λhle=>by
  refine fin H D.hw (jn _ _ (I.lf a) (iN hle ht)) ?_
  intro H' w' v y r7 dw e8 cb gu
  exact ⟨H',D.share e8 r7 dw cb,n9.up (aZ.le.refl H') gu⟩
 rcases lB with ⟨hle,qW|hl⟩|hle
 ·have IC:aL η (aO b) (gL w) (args.map (view b)) ac.tmps.toList:=by
   have:∀(xs:List SV) (vs:List Value),aL η (aO b) H xs vs->aL η (aO b) (gL w) (xs.map (view b)) vs:=by
    intro xs
    induction xs with
    | nil=>intro vs h;simpa [aL] using h
    | cons c r ih =>
     intro vs h
     simp only [aL,ig] at h ⊢
     obtain ⟨u,us,h1,h2,h3⟩:=h
     exact ⟨u,us,h1,zh (tu.world D) 4 c u h2,ih us h3⟩
   exact this _ _ ht
  refine fin (gL w) (wV w) (jn _ _ (I.lf a) (iN hle IC)) ?_
  intro H' w' v y _ _ e8 _ gu
  exact ⟨H,D.grown e8,K1 _ _ (qW y) gu⟩
 ·rw [Me b _ hl] at hle
  exact plain hle
 ·refine fin H D.hw (jn _ _ (I.lf a) (iN hle (yQ _ _ ht))) ?_
  intro H' w' v y r7 dw e8 cb gu
  exact ⟨H',D.share e8 r7 dw cb,n9.up (aZ.le.refl H') gu⟩
theorem iW.rel {P:Unit->Program} {fid:FuncId} {Sp:pc} (I:sB P fid Sp) {S args:List SV} {b:List Slot} {k:List Slot->SV->Prop} (a:Sp.α)
 (lB:cO (uy args) (Sp.args a)) (dR:vY λ_=>Sp.pre a) (hk:∀y,Hyp (λ_=>Sp.post a y)->k b (Sp.res a y)):iW S P fid args b k:=.of I a (.inr lB) dR hk
end
section
variable {P:Program} {X:Ctx} {f:Fr} {s s':St} {η:Nat->Value} {H:aZ} {a:Act} {w:World} {S:List SV} {r:Bool}
def zG (l:Nat) (x:SV):SV:=match iE (λm=>Nat.beq m l) x with
 | true=>.any
 | false=>x
def xk (l:Nat):Slot->Slot
 | .fix e cs=>.fix e (cs.map (zG l))
 | x=>x
def St.kill (l:Nat) (s:St):St:=match s.b[l]? with
 | some .un=>s
 | some _=>⟨s.t.map (zG l),(s.b.map (xk l)).set l .dead⟩
 | none=>s
theorem TP (l:Nat) (x:SV):Le x (zG l x):=by
 unfold zG
 split
 ·exact .any _
 ·exact .refl _
theorem Mo (l:Nat):∀xs:List SV,oT xs (xs.map (zG l))
 | []=>trivial
 | x :: r=>by
  have:=TP l x
  simp only [ig,oT]
  split
  ·exact Mo l r
  ·exact ⟨this,Mo l r⟩
theorem TQ (l:Nat):∀xs:List SV,cO xs (xs.map (zG l))
 | []=>.nil
 | x :: r=>.cons (TP l x) (TQ l r)
theorem TR (l:Nat):∀(b:List Slot) (j:Nat),(∀i x,b[i]?=some x->i+j=l->IK x)->lL b (match Nat.ble j l with|true=>(b.map (xk l)).set (l - j) .dead|false=>b.map (xk l))
 | [],j,_=>by split<;>trivial
 | x :: r,j,h=>by
  have ih:=TR l r (j+1) λi y hy hi=>h (i+1) y (by simpa using hy) (by omega)
  have slot:cy x (xk l x):=by
   cases x<;>first|exact cy.refl _|exact cy.fix (TQ l _)
  have unf:∀(y:Slot) (ys:List Slot),(y=.dead->IK x)->(y=.un->Xh x)->cy x y->lL r ys->lL (x :: r) (y :: ys):=by
   intro y ys h1 h2 h3 h4
   cases y<;>first|exact ⟨h1 rfl,h4⟩|exact ⟨h2 rfl,h4⟩|exact ⟨h3,h4⟩
  have B8:∀ys,lL r ys->lL (x :: r) (xk l x :: ys):=λys oP=>by
   refine unf _ _ (λe=>?_) (λe=>?_) slot oP
   ·cases x<;>first|trivial|(simp [xk] at e)
   ·cases x<;>first|trivial|(simp [xk] at e)
  by_cases hj:j < l
  ·have e1:Nat.ble j l=true:=sZ (by omega)
   have e2:Nat.ble (j+1) l=true:=sZ (by omega)
   rw [e2] at ih
   rw [e1]
   simp only [ig]
   rw [show l - j=(l - (j+1))+1 by omega,Hh]
   exact B8 _ ih
  ·have e2:Nat.ble (j+1) l=false:=by
    cases e:Nat.ble (j+1) l with
    | false=>rfl
    | true=>have:=Bt e;omega
   rw [e2] at ih
   by_cases ei:j=l
   ·subst ei
    have e1:Nat.ble j j=true:=sZ (fN _)
    rw [e1]
    simp only [ig,yW,List.set_cons_zero]
    exact ⟨h 0 x (by simp) (by omega),ih⟩
   ·have e1:Nat.ble j l=false:=by
     cases e:Nat.ble j l with
     | false=>rfl
     | true=>have:=Bt e;omega
    rw [e1]
    simp only [ig]
    exact B8 _ ih
theorem Sat.kill {P:Unit->Program} {c:Code} {k:Exit->St->Prop} (l:Nat) (h:Sat S r P c (s.kill l) k):Sat S r P c s k:=by
 have main:(∀y,s.b[l]?=some y->IK y)->Sat S r P c ⟨s.t.map (zG l),(s.b.map (xk l)).set l .dead⟩ k->Sat S r P c s k:=λhn h=>by
  refine Sat.weaken ⟨Mo l s.t,?_⟩ h
  have:=TR l s.b 0 λi y hy hi=>by
   have:i=l:=by omega
   subst this
   exact hn y hy
  have e1:Nat.ble 0 l=true:=sZ (cI _)
  rw [e1] at this
  exact this
 unfold St.kill at h
 cases hb:s.b[l]? with
 | none=>rw [hb] at h;exact h
 | some x =>
  rw [hb] at h
  cases x with
  | un=>exact h
  | _=>exact main (λy hy=>by rw [hb] at hy;cases hy;trivial) h
end
mutual
theorem Mp (g:Nat->Nat):∀x:SV,LF x->eC g x=x
 | .ptr ..,h=>h.elim
 | .fB ..,h=>h.elim
 | .own _,h=>h.elim
 | .eA ..,h=>h.elim
 | .fA _,h=>h.elim
 | .fI _,h=>h.elim
 | .agg cs,h=>by simp only [LF] at h;simp only [eC,zk g cs h]
 | .cd cs,h=>by simp only [LF] at h;simp only [eC,zk g cs h]
 | .dK cs n,h=>by simp only [LF] at h;simp only [eC,zk g cs h]
 | .db cs off,h=>by simp only [LF] at h;simp only [eC,zk g cs h]
 | .fn f x y,h=>by simp only [LF] at h;simp only [eC,zk g x h.1,zk g y h.2]
 | .k7 t x,h=>by simp only [LF] at h;simp only [eC,Mp g x h]
 | .sl ..,_=>by rw [eC]
 | .fC ..,_=>by rw [eC]
 | .mp ..,_=>by rw [eC]
 | .opt ..,_=>by rw [eC]
 | .any,_=>by rw [eC]
 | .cell,_=>by rw [eC]
 | .bc _,_=>by rw [eC]
 | .b _,_=>by rw [eC]
 | .nb _ _,_=>by rw [eC]
 | .ic _ _,_=>by rw [eC]
 | .i _ _,_=>by rw [eC]
 | .str _,_=>by rw [eC]
 | .v _,_=>by rw [eC]
 | .cG,_=>by rw [eC]
theorem zk (g:Nat->Nat):∀xs:List SV,cj xs->oM g xs=xs
 | [],_=>rfl
 | x :: r,h=>by simp only [cj] at h;simp only [oM,Mp g x h.1,zk g r h.2]
end
theorem iW.tP {P:Unit->Program} {fid:FuncId} {Sp:nU} (I:l5 P fid Sp) (ca:∀a y,LF (Sp.res a y)) {S args:List SV} {b:List Slot} {k:List Slot->SV->Prop} (a:Sp.α) (L:List Nat)
  (iw:zW (Sp.io a) L b.length []=true) (lB:cO args (oM (tO L b.length) (Sp.args a))) (Pp:lL b (rX (tO L b.length) (λ_=>false) 0 (Sp.io a) b))
  (dR:vY λ_=>Sp.pre a) (hk:∀y,Hyp (λ_=>Sp.post a y)->k (MH b L Sp.mv (Sp.ld a y)) (Sp.res a y)):iW S P fid args b k :=
 .io I a L iw lB Pp dR λy hy=>by rw [Mp _ _ (ca a y)];exact hk y hy
theorem e9 {p:Prop} (h:p:=by ((repeat' first|exact cO.nil|exact Le.refl _|refine cO.cons ?_ ?_|exact Le.ic rfl|exact Le.bc rfl|exact Le.i rfl|exact Le.b rfl|exact Le.sl rfl|exact Le.mp rfl|exact Le.fC rfl|exact Le.nX rfl|refine Le.cG rfl (λ_=>?_)|refine Le.dK rfl (λ_ _=>rfl) (λ_=>?_) ?_|refine Le.agg ?_|refine Le.cd ?_|refine Le.fn ?_ ?_|refine Le.db ?_|exact trivial|refine And.intro ?_ ?_|refine λ_=>?_|exact Le.any _))<;>first|exact Le.i (by with_reducible assumption)|exact Le.i (ly (by with_reducible assumption))|exact Le.sl (by with_reducible assumption)|exact Le.sl (ly (by with_reducible assumption))|exact Le.ic (by with_reducible assumption)|exact Le.ic (ly (by with_reducible assumption))|exact Le.b (by with_reducible assumption)|exact Le.b (ly (by with_reducible assumption))|exact Le.bc (by with_reducible assumption)|exact Le.i (by assumption)|exact Le.i (ly (by assumption))|exact Le.sl (by assumption)|exact Le.sl (ly (by assumption))|exact Le.b (by assumption)|exact Le.b (ly (by assumption))):p:=h
theorem aW {p:Prop} (h:p:=by ((try cbv)<;>(repeat' (first|with_reducible exact trivial|with_reducible refine And.intro ?_ ?_))<;>(try first|exact cy.refl _|exact cy.dyn rfl|exact cy.map rfl|exact cy.iter rfl rfl (.inl rfl)|exact cy.iter rfl rfl (.inr rfl)|refine cy.fix ?_|refine cy.dyn ?_)<;>((repeat' first|exact cO.nil|exact Le.refl _|refine cO.cons ?_ ?_|exact Le.ic rfl|exact Le.bc rfl|exact Le.i rfl|exact Le.b rfl|exact Le.sl rfl|exact Le.mp rfl|exact Le.fC rfl|exact Le.nX rfl|refine Le.cG rfl (λ_=>?_)|refine Le.dK rfl (λ_ _=>rfl) (λ_=>?_) ?_|refine Le.agg ?_|refine Le.cd ?_|refine Le.fn ?_ ?_|refine Le.db ?_|exact trivial|refine And.intro ?_ ?_|refine λ_=>?_|exact Le.any _)))<;>first|exact Le.i (by with_reducible assumption)|exact Le.i (ly (by with_reducible assumption))|exact Le.sl (by with_reducible assumption)|exact Le.sl (ly (by with_reducible assumption))|exact Le.ic (by with_reducible assumption)|exact Le.ic (ly (by with_reducible assumption))|exact Le.b (by with_reducible assumption)|exact Le.b (ly (by with_reducible assumption))|exact Le.bc (by with_reducible assumption)|exact Le.i (by assumption)|exact Le.i (ly (by assumption))|exact Le.sl (by assumption)|exact Le.sl (ly (by assumption))|exact Le.b (by assumption)|exact Le.b (ly (by assumption))):p:=h
theorem a8 {p:Prop} (h:p:=by ((try cbv)<;>((repeat' first|exact cO.nil|exact Le.refl _|refine cO.cons ?_ ?_|exact Le.ic rfl|exact Le.bc rfl|exact Le.i rfl|exact Le.b rfl|exact Le.sl rfl|exact Le.mp rfl|exact Le.fC rfl|exact Le.nX rfl|refine Le.cG rfl (λ_=>?_)|refine Le.dK rfl (λ_ _=>rfl) (λ_=>?_) ?_|refine Le.agg ?_|refine Le.cd ?_|refine Le.fn ?_ ?_|refine Le.db ?_|exact trivial|refine And.intro ?_ ?_|refine λ_=>?_|exact Le.any _)))<;>first|exact Le.i (by with_reducible assumption)|exact Le.i (ly (by with_reducible assumption))|exact Le.sl (by with_reducible assumption)|exact Le.sl (ly (by with_reducible assumption))|exact Le.ic (by with_reducible assumption)|exact Le.ic (ly (by with_reducible assumption))|exact Le.b (by with_reducible assumption)|exact Le.b (ly (by with_reducible assumption))|exact Le.bc (by with_reducible assumption)|exact Le.i (by assumption)|exact Le.i (ly (by assumption))|exact Le.sl (by assumption)|exact Le.sl (ly (by assumption))|exact Le.b (by assumption)|exact Le.b (ly (by assumption))):p:=h
theorem iC {S:List SV} {r:Bool} {P:Unit->Program} {c:Code} {s:Vc.St} {k:Exit->Vc.St->Prop} (n:Nat) (s':Vc.St) (h0:oT (s.cut n).t s'.t) (py:lL (s.cut n).b s'.b)
 (h:Sat S r P c s' k) (hn:kX (Nat.ble n) S=false:=by rfl):Sat S r P c s k:=⟨λF R f η H a w hS D=>h.out F R f η H a w hS ((D.cut n (by rw [hS];exact hn)).weaken ⟨h0,py⟩)⟩
theorem y9 {G:Prop} (T:Code->(Exit->Vc.St->Prop)->Prop) {c:Code} {k:Exit->Vc.St->Prop} (main:T c k->G) (tail:T c k):G:=main tail
def N6 (P:Program) (f:FuncId) (S:Spec):Prop:=∀a,S.pre a->∀(H F:aZ) (w:World) (vals:List Value),H.gR w->F.gR w->dg H (S.args a) vals ->
 Calls P f vals.toArray w λe w'=>∃v N,e=.returned v/\H.gR w'/\F.gR w'/\aZ.gR N w'/\(∀b,N b≠none->H b=none/\F b=none)/\n9 N (S.res a) v /\
  w'.os=w.os/\w'.tape=w.tape/\w'.output=w.output
theorem N6.spec {P:Program} {f:FuncId} {S:Spec} (I:N6 P f S) {fn:Func} (F:kF P f fn) (ca:∀a,cj (S.args a)) (gu:∀a,LF (S.res a)):cY P f S where
 fn:=⟨fn,F⟩
 lf:=ca
 lr:=gu
 fresh:=λ_=>I
 run:=λa hp H F w vals hH hF hr=>by
  refine (I a hp H F w vals hH hF hr).mono ?_
  rintro e w' ⟨v,N,he,g1,g2,g3,g4,g5,g6,g7,g8⟩
  let G:aZ:=λb=>match H b with
   | some o=>some o
   | none=>N b
  have OZ:N.le G:=λb o hb=>by
   have:=(g4 b (by rw [hb];simp)).1
   simp only [G,this];exact hb
  refine ⟨v,G,he,λb o hb=>by simp only [G];rw [hb],λb o hb=>?_,g2,λb hb=>?_,s6 (gQ.refl _ _) OZ _ _ g5,g6,g7,g8⟩
  ·simp only [G] at hb
   split at hb
   ·rename_i o' ho;simp at hb;subst hb;exact g1 b _ ho
   ·exact g3 b o hb
  ·cases hq:H b with
   | some o=>exact .inl (by simp)
   | none =>
    right
    exact (g4 b (by simpa only [G,hq] using hb)).2
section
variable {P:Program} {X:Ctx} {f:Fr} {s s':St} {η:Nat->Value} {H:aZ} {a:Act} {w:World}
structure air (r:SV) (b:List Slot) (v:SV):Prop where
 out:match v with
  | .own l=>(match b[l]? with
   | some (.dyn e sz c xs)=>Le (.sl sz c xs) r/\∀x,xn (c x)=true
   | _=>False)
  | .eA l Ae g n=>(match b[l]? with
   | some (.dyn e sz c xs)=>Ae=sz/\n ()<=(xs ()).length/\Le (.sl sz c λ_=>((xs ()).take (n ())).drop (g ())) r/\∀x,xn (c x)=true
   | _=>False)
  | _=>False
structure Wx (PP:Unit->Program) (X:Ctx) (lv:Nat) (fn:Func) (args:List SV) (res:SV):Prop where
 out:match fn.body with
  | some c=>vc PP X lv c (start args fn.ntmps []) (v7 X fn.results.toList (air res))
  | none=>False
theorem abr {PP:Unit->Program} {X:Ctx} (C:X.Ok (PP ())) (IL:lC X) {lv:Nat} {fid:FuncId} {fn:Func} (F:kF (PP ()) fid fn) (j6:lV fn=true) {S:Spec}
  (ca:∀a,cj (S.args a)) (gu:∀a,LF (S.res a)) (h0:∀a,S.pre a->Wx PP X lv fn (S.args a) (S.res a)):cY (PP ()) fid S:=by
 refine N6.spec (λα dR H F0 w vals hH hF iX=>?_) F ca gu
 ·obtain ⟨c,hb⟩:=qD.1 F.body
  have hc:codeOk c=true:=by unfold lV at j6;rw [hb] at j6;exact j6
  have h:=(h0 α dR).out
  rw [hb] at h
  let f:Fr:={ F:=F0,H0:=H,w0:=w }
  have D:Den f ⟨S.args α,[]⟩ (λ_=>.nilIface) H { tmps:=vals.toArray,defers:=[] } w:={
   t:=dg.up (aZ.le.refl H) iX
   sv:=by simp [f,aL]
   d:=rfl
   h0:=aZ.le.refl H
   hw:=hH
   fw:=hF
   hf:=λb hb=>.inl hb
   sl:=λl x hx=>by simp at hx
   dj:=λl l' b h=>by simp [aO] at h
   dh:=λl b h=>by simp [aO] at h
   os:=rfl
   tape:=rfl
   out:=rfl }
  refine (Bx C F hb (w6 C IL hc h) f _ H _ w rfl rfl D).mono ?_
  rintro e w' ⟨v,b',η',H',xv,rfl,hk,D2,h2⟩
  have hk:=hk.out
  have fin:∀{T:Type} (sz:Nat) (c:T->List SV) (xs:Unit->List T) (l:Nat) (v:Value),aO b' l=.live->rel η' (aO b') (gL w') (.sl sz c xs) v->(∀x,xn (c x)=true)->Le (.sl sz c xs) (S.res α) ->
    (∀ad n cp,v=.slice (some ad) n cp->0 < n->n<=cp->bY (η' l)=some ad.block)->∃v' N,Ending.returned v=.returned v'/\H.gR w'/\F0.gR w'/\aZ.gR N w'/\(∀b,N b≠none->H b=none/\F0 b=none)/\n9 N (S.res α) v' /\
     w'.os=w.os/\w'.tape=w.tape/\w'.output=w.output:=by
   intro T sz c xs l v hq h3 qW Fa je
   let N:aZ:=λb=>if bY (η' l)=some b then w'.heap[b]? else none
   have hN:n9 N (.sl sz c xs) v:=by
    simp only [rel] at h3 ⊢
    obtain ⟨⟨ad,cap,h1,h0,h2⟩,ca⟩:=h3
    refine ⟨⟨ad,cap,h1,h0,?_⟩,ca⟩
    rcases h2 with h|⟨a,ha,hs,e7⟩
    ·exact .inl h
    ·by_cases Fz:xs ()=[]
     ·exact .inl Fz
     ·refine .inr ⟨a,ha,hs,λj x hj=>?_⟩
      obtain ⟨vals,g1,g2,g3⟩:=e7 j x hj
      have pW:0 < (xs ()).length:=List.length_pos_iff.2 Fz
      have hblk:bY (η' l)=some a.block:=je a _ cap (by rw [h1,ha]) pW h0
      refine ⟨vals,g1,GY _ _ (qW x) g2,λi u hu=>?_⟩
      have:=g3 i u hu
      unfold nW at this ⊢
      simp only [N,hblk,if_true]
      exact this
   refine ⟨_,N,rfl,λb o hb=>D2.hw b o (D2.h0 b o hb),D2.fw,λb o hb=>?_,λb hb=>?_,rS Fa hN,D2.os,D2.tape,D2.out⟩
   ·simp only [N] at hb
    split at hb
    ·exact hb
    ·cases hb
   ·simp only [N] at hb
    split at hb
    ·rename_i oq
     obtain ⟨e1,e2⟩:=D2.dh l b hq oq
     refine ⟨?_,e2⟩
     cases hHb:H b with
     | none=>rfl
     | some o=>have:=D2.h0 b o hHb;rw [e1] at this;cases this
    ·exact absurd rfl hb
  have BV:tu D2 (gL w'):=tu.world D2
  split at hk
  case h_3=>exact hk.elim
  ·rename_i l _
   split at hk
   case h_2=>exact hk.elim
   rename_i T e sz c xs hx
   obtain ⟨Fa,qW⟩:=hk
   have hq:aO b' l=.live:=bX hx
   simp only [rel,hq] at h2
   obtain ⟨hv,gz⟩:=h2
   subst hv
   have h3:=zh BV 6 (.own l) (η' l) (by simp only [rel];rw [show aO (St.mk [] b').b l=.live from hq];exact ⟨trivial,gz⟩)
   simp only [gP,hx] at h3
   refine fin sz c xs l _ hq h3 qW Fa λad n cp h1 hn hc=>?_
   rw [h1];simp only [bY];rw [if_neg (by omega)]
  ·rename_i l Ae g n _
   split at hk
   case h_2=>exact hk.elim
   rename_i T e sz c xs hx
   obtain ⟨rfl,Yk,Fa,qW⟩:=hk
   have hq:aO b' l=.live:=bX hx
   have h3:=zh BV 6 (.eA l Ae g n) _ h2
   simp only [gP,hx,LM] at h3
   simp only [rel,hq] at h2
   obtain ⟨OT,nn,c0,he,uU,qd,ky,c',hv,-,JV,-⟩:=h2
   obtain ⟨vals,jy,-⟩:=D2.sl l _ hx
   refine fin Ae c _ l _ hq h3 qW Fa λad k cp h1 hn hc=>?_
   rw [hv] at h1
   cases h1
   obtain ⟨bl,h5,h6⟩:=JV (by omega)
   cases h6
   rw [he,h5]
   rcases jy with ⟨-,bR⟩|⟨⟨ad2,h7⟩,h8,-⟩
   ·have:c0≠0:=λe0=>bR OT nn (by rw [he,e0])
    simp only [bY];rw [if_neg this]
   ·rw [he] at h7;cases h7;omega
end
end Go.Vc
