import Derived.Test.YthnhbemmlfaihaaGreatT10
import Derived.KernelRfl
set_option linter.unusedVariables false
set_option linter.unusedSimpArgs false
set_option maxRecDepth 10000
set_option maxHeartbeats 64000000
namespace Go.Vc
open Go
mutual
def fE (g:Nat->Nat):SV->SV
 | .ptr m off=>.ptr (g m) off
 | .ik m sz i off=>.ik (g m) sz i off
 | .own m=>.own (g m)
 | .gD m sz i j=>.gD (g m) sz i j
 | .agg cs=>.agg (sE g cs)
 | .dH cs=>.dH (sE g cs)
 | .eL cs n=>.eL (sE g cs) n
 | .dF cs off=>.dF (sE g cs) off
 | .fn f x y=>.fn f (sE g x) (sE g y)
 | .om t x=>.om t (fE g x)
 | .sl sz c xs=>.sl sz c xs
 | .iB sz c xs=>.iB sz c xs
 | .mp j c m=>.mp j c m
 | .opt p x=>.opt p x
 | .e9 m=>.e9 (g m)
 | .iC m=>.iC (g m)
 | .any=>.any
 | .cell=>.cell
 | .bc c=>.bc c
 | .b x=>.b x
 | .nb d p=>.nb d p
 | .ic k x=>.ic k x
 | .i k x=>.i k x
 | .str x=>.str x
 | .v x=>.v x
 | .dp=>.dp
def sE (g:Nat->Nat):List SV->List SV
 | []=>[]
 | x :: r=>fE g x :: sE g r
end
def rD (g:Nat->Nat):Slot->Slot
 | .fix e cs=>.fix e (sE g cs)
 | .eV ts ps ff body st=>.eV (sE g ts) ps ff body st
 | x=>x
section
variable {P:Program} {X:Ctx} {f:Fr} {s s':St} {η:Nat->Value} {H:bR} {a:Act} {w:World}
mutual
theorem Ko {q:Nat->Live} {g:Nat->Nat}:∀(x:SV) (v:Value),rel η q H (fE g x) v↔rel (λl=>η (g l)) (λl=>q (g l)) H x v
 | .ptr m off,v=>by simp only [fE,rel]
 | .ik m sz i off,v=>by simp only [fE,rel]
 | .own m,v=>by simp only [fE,rel]
 | .gD m sz i j,v=>by simp only [fE,rel]
 | .agg cs,v=>by
  simp only [fE,rel]
  exact ⟨λ⟨vs,h1,h2⟩=>⟨vs,h1,(pZ cs vs).1 h2⟩,λ⟨vs,h1,h2⟩=>⟨vs,h1,(pZ cs vs).2 h2⟩⟩
 | .dH cs,v=>by
  simp only [fE,rel]
  exact ⟨λ⟨vs,h1,h2⟩=>⟨vs,h1,(pZ cs vs).1 h2⟩,λ⟨vs,h1,h2⟩=>⟨vs,h1,(pZ cs vs).2 h2⟩⟩
 | .eL cs n,v=>by
  simp only [fE,rel]
  exact ⟨λ⟨ad,h1,h2⟩=>⟨ad,h1,h2.imp id λ⟨b,h3,h4,vs,h5,h6⟩=>⟨b,h3,h4,vs,(pZ cs vs).1 h5,h6⟩⟩,
   λ⟨ad,h1,h2⟩=>⟨ad,h1,h2.imp id λ⟨b,h3,h4,vs,h5,h6⟩=>⟨b,h3,h4,vs,(pZ cs vs).2 h5,h6⟩⟩⟩
 | .dF cs off,v=>by
  simp only [fE,rel]
  exact ⟨λ⟨b,h1,vs,h2,h3⟩=>⟨b,h1,vs,(pZ cs vs).1 h2,h3⟩,λ⟨b,h1,vs,h2,h3⟩=>⟨b,h1,vs,(pZ cs vs).2 h2,h3⟩⟩
 | .fn f x y,v=>by
  simp only [fE,rel]
  exact ⟨λ⟨fs,cs,h1,h2,h3⟩=>⟨fs,cs,h1,(pZ x fs).1 h2,(pZ y cs).1 h3⟩,λ⟨fs,cs,h1,h2,h3⟩=>⟨fs,cs,h1,(pZ x fs).2 h2,(pZ y cs).2 h3⟩⟩
 | .om t x,v=>by
  simp only [fE,rel]
  exact ⟨λ⟨y,h1,h2⟩=>⟨y,h1,(Ko x y).1 h2⟩,λ⟨y,h1,h2⟩=>⟨y,h1,(Ko x y).2 h2⟩⟩
 | .sl sz c xs,v=>by
  rw [fE]
  constructor<;>intro h<;>refine rF _ _ ?_ h<;>(simp only [rel,LF] at h ⊢;exact h.2)
 | .iB sz c xs,v=>by
  rw [fE]
  constructor<;>intro h<;>refine rF _ _ ?_ h<;>(simp only [rel,LF] at h ⊢;exact h.2)
 | .mp j c m,v=>by
  rw [fE]
  constructor<;>intro h<;>refine rF _ _ ?_ h<;>(simp only [rel,LF] at h ⊢;exact h.2)
 | .opt p x,v=>by
  rw [fE]
  constructor<;>intro h<;>refine rF _ _ ?_ h<;>(simp only [rel,LF] at h ⊢;exact h.2)
 | .e9 m,v=>by simp only [fE,rel]
 | .iC m,v=>by simp only [fE,rel]
 | .any,v=>by simp only [fE,rel]
 | .cell,v=>by simp only [fE,rel]
 | .bc c,v=>by simp only [fE,rel]
 | .b x,v=>by simp only [fE,rel]
 | .nb d p,v=>by simp only [fE,rel]
 | .ic k x,v=>by simp only [fE,rel]
 | .i k x,v=>by simp only [fE,rel]
 | .str x,v=>by simp only [fE,rel]
 | .v x,v=>by simp only [fE,rel]
 | .dp,v=>by simp only [fE,rel]
theorem pZ {q:Nat->Live} {g:Nat->Nat}:∀(x:List SV) (v:List Value),bd η q H (sE g x) v↔bd (λl=>η (g l)) (λl=>q (g l)) H x v
 | [],v=>by simp only [sE,bd]
 | x :: r,v=>by
  simp only [sE,bd]
  exact ⟨λ⟨u,us,h1,h2,h3⟩=>⟨u,us,h1,(Ko x u).1 h2,(pZ r us).1 h3⟩,λ⟨u,us,h1,h2,h3⟩=>⟨u,us,h1,(Ko x u).2 h2,(pZ r us).2 h3⟩⟩
end
theorem vU (g:Nat->Nat) (x:Slot):(rD g x).live=x.live:=by cases x<;>rfl
theorem aa5 {q:Nat->Live} {g:Nat->Nat} {l:Nat} {x:Slot}:lh η q H w (g l) (rD g x)↔lh (λl=>η (g l)) (λl=>q (g l)) H w l x:=by
 cases x with
 | un=>exact xC
 | dead=>exact xC
 | fix e cs =>
  simp only [rD,lh]
  exact ⟨λ⟨bl,vs,h1,h2,h3⟩=>⟨bl,vs,h1,h2,(pZ cs _).1 h3⟩,λ⟨bl,vs,h1,h2,h3⟩=>⟨bl,vs,h1,h2,(pZ cs _).2 h3⟩⟩
 | dyn e sz c xs=>exact xC
 | map k c m=>exact xC
 | iter k c m seen cur=>exact xC
 | eV ts ps ff body st =>
  simp only [rD,lh]
  exact ⟨λ⟨bl,fn,tmps,d,h1,h2,h3⟩=>⟨bl,fn,tmps,d,h1,h2,(pZ ts _).1 h3⟩,λ⟨bl,fn,tmps,d,h1,h2,h3⟩=>⟨bl,fn,tmps,d,h1,h2,(pZ ts _).2 h3⟩⟩
theorem lh.Qm {η η':Nat->Value} {q q':Nat->Live} {H:bR} {w:World} {l:Nat} {x:Slot} (h:lh η q H w l x) (ht:jJ η η' q q') (he:x.live=.live->η' l=η l):lh η' q' H w l x:=by
 cases hx:x.live with
 | live=>exact h.kept ht (bR.le.refl _) (he hx) λ_ _=>rfl
 | _=>cases x<;>first|trivial|cases hx
structure na:Type 1 where
 α:Type
 args:α->List SV
 io:α->List Slot
 pre:α->Prop
 β:Type
 post:α->β->Prop
 mv:List Nat
 res:α->β->SV
 ko:α->β->List Slot
def gM (j:Nat):List Nat->Bool
 | []=>false
 | x :: r=>Nat.beq j x||gM j r
theorem Ax {j:Nat}:∀{l:List Nat},gM j l=true↔j∈l
 | []=>by simp [gM]
 | x :: r=>by simp [gM,G5,Ax]
def rL (j:Nat):Slot->SV
 | .fix _ _=>.ptr j 0
 | .dyn ..=>.own j
 | .map ..=>.e9 j
 | .iter ..=>.ptr j 0
 | .eV ..=>.iC j
 | _=>.any
def uq (v:Value):Slot->Value
 | .eV ..=>match v with
  | .pointer (some a)=>.func (.yield a.block) #[] #[]
  | _=>.nilIface
 | _=>v
def tj (mv:List Nat):Nat->List Slot->List SV
 | _,[]=>[]
 | j,x :: r=>(match gM j mv with|true=>.any|false=>rL j x) :: tj mv (j+1) r
def A9 (η:Nat->Value):Nat->List Slot->List Value
 | _,[]=>[]
 | j,x :: r=>uq (η j) x :: A9 η (j+1) r
theorem aqn {q:Nat->Live} {l:Nat} {x:Slot} (h:lh η q H w l x) (hq:q l=x.live):rel η q H (rL l x) (uq (η l) x):=by
 cases x with
 | un=>simp only [rL,rel]
 | dead=>simp only [rL,rel]
 | fix e cs =>
  obtain ⟨bl,vs,h1,h2,h3⟩:=h
  simp only [rL,rel,hq,Slot.live,uq]
  exact ⟨bl,h1,h1⟩
 | dyn e sz c xs =>
  obtain ⟨vals,h1,_⟩:=h
  obtain ⟨ad,cp,h2,_⟩:=h1.slice
  simp only [rL,rel,hq,Slot.live,uq]
  exact ⟨trivial,_,_,_,h2⟩
 | map k c m =>
  obtain ⟨r,es,clock,h1,_⟩:=h
  simp only [rL,rel,hq,Slot.live,uq]
  exact ⟨trivial,_,h1⟩
 | iter k c m seen cur =>
  obtain ⟨bl,h1,_⟩:=h
  simp only [rL,rel,hq,Slot.live,uq]
  exact ⟨bl,h1,h1⟩
 | eV ts ps ff body st =>
  obtain ⟨bl,fn,tmps,d,h1,_⟩:=h
  simp only [rL,rel,hq,Slot.live,uq,h1]
  exact ⟨bl,rfl,rfl⟩
theorem aqo {η':Nat->Value} {q q':Nat->Live} {H':bR} {w:World} {l:Nat} {x:Slot} (hx:x.live=.live) (h:lh η q H w l x) (hq:q' l=.live) (hr:rel η' q' H' (rL l x) (uq (η l) x)):η' l=η l:=by
 cases x with
 | un=>cases hx
 | dead=>cases hx
 | fix e cs =>
  simp only [rL,rel,hq,uq] at hr
  obtain ⟨bl,h1,h2⟩:=hr
  exact h1.trans h2.symm
 | dyn e sz c xs =>
  simp only [rL,rel,hq,uq] at hr
  exact hr.1.symm
 | map k c m =>
  simp only [rL,rel,hq,uq] at hr
  exact hr.1.symm
 | iter k c m seen cur =>
  simp only [rL,rel,hq,uq] at hr
  obtain ⟨bl,h1,h2⟩:=hr
  exact h1.trans h2.symm
 | eV ts ps ff body st =>
  obtain ⟨bl,fn,tmps,d,h1,_⟩:=h
  simp only [rL,rel,hq,uq,h1] at hr
  obtain ⟨mf,h2,h3⟩:=hr
  simp at h3
  subst h3
  rw [h1,h2]
theorem adE {q:Nat->Live} (mv:List Nat):∀(b:List Slot) (j:Nat),(∀(l:Nat) (x:Slot),b[l]?=some x->lh η q H w (j+l) x/\q (j+l)=x.live)->bd η q H (tj mv j b) (A9 η j b)
 | [],_,_=>by simp [tj,A9,bd]
 | x :: r,j,h=>by
  simp only [tj,A9,bd]
  refine ⟨_,_,rfl,?_,adE mv r (j+1) λl y hy=>?_⟩
  ·have:=h 0 x rfl
   simp only [v7] at this
   split
   ·simp only [rel]
   ·exact aqn this.1 this.2
  ·have:=h (l+1) y (by simpa using hy)
   rwa [show j+1+l=j+(l+1) by omega]
theorem acK (η:Nat->Value) (mv:List Nat):∀(b:List Slot) (j l:Nat) (x:Slot),b[l]?=some x->gM (j+l) mv=false->(tj mv j b)[l]?=some (rL (j+l) x)/\(A9 η j b)[l]?=some (uq (η (j+l)) x)
 | [],_,l,x,h,_=>by simp at h
 | y :: r,j,0,x,h,he=>by
  simp at h
  subst h
  simp only [v7] at he
  simp [tj,A9,he]
 | y :: r,j,l+1,x,h,he=>by
  have:=acK η mv r (j+1) l x (by simpa using h) (by rwa [show j+1+l=j+(l+1) by omega])
  rw [show j+1+l=j+(l+1) by omega] at this
  simpa [tj,A9] using this
def wH:List Nat->St->St
 | [],s=>s
 | m :: r,s=>match s.b[m]? with
  | some x=>match x.live with
   | .live=>wH r (s.freeze m)
   | _=>wH r s
  | none=>wH r s
theorem Den.wH:∀(r:List Nat) {s:St} {H:bR},Den f s η H a w->∃H',Den f (wH r s) η H' a w
 | [],s,H,D=>⟨H,D⟩
 | m :: r,s,H,D=>by
  unfold Vc.wH
  split
  ·rename_i x hx
   split
   ·rename_i hl
    obtain ⟨H1,D1⟩:=D.freeze hx hl
    exact Den.wH r D1
   ·exact Den.wH r D
  ·exact Den.wH r D
def IoK (Sp:na) (a:Sp.α) (b:List Slot) (v:SV):Prop :=
 ∃(y:Sp.β) (fr:List Nat) (own:List (Place × Nat)),ra (fit (tj Sp.mv 0 (Sp.io a)) (Sp.io a).length own (wH fr ⟨[v],b⟩)).t [Sp.res a y] /\
  nQ (fit (tj Sp.mv 0 (Sp.io a)) (Sp.io a).length own (wH fr ⟨[v],b⟩)).b (Sp.ko a y)/\Bg (λ_=>Sp.post a y)
structure iK (P:Unit->Program) (fid:FuncId) (Sp:na):Prop where
 len:∀a y,(Sp.ko a y).length=(Sp.io a).length
 old:∀a (j:Nat) (z:Slot),(Sp.io a)[j]?=some z->gM j Sp.mv=false->z.live=.live
 nu:∀a y (j:Nat),(Sp.ko a y)[j]?≠some .un
 mv:Sp.mv.Nodup/\∀a,∀j∈Sp.mv,j < (Sp.io a).length
 run:∀a,Sp.pre a->bV (tj Sp.mv 0 (Sp.io a)) P fid (Sp.args a) (Sp.io a) (IoK Sp a)
def yt (L:List Nat) (d j:Nat):Nat:=match L[j]? with
 | some l=>l
 | none=>d
def wA (g:Nat->Nat) (sk:Nat->Bool):Nat->List Slot->List Slot->List Slot
 | _,[],b=>b
 | j,x :: r,b=>wA g sk (j+1) r (match sk j with|true=>b|false=>b.set (g j) (rD g x))
def Cy (g:Nat->Nat):List Nat->List Slot->List Slot
 | [],b=>b
 | j :: r,b=>Cy g r (b.set (g j) .dead)
def Ie (j:Nat):List Nat->Nat
 | []=>0
 | x :: r=>match Nat.beq j x with
  | true=>0
  | false=>Ie j r+1
def Fy:List Slot->List Nat->Nat->List Nat->Bool
 | [],[],_,_=>true
 | x :: r,l :: ls,n,seen=>(match Nat.blt l n with
  | true=>!gM l seen
  | false=>match x with|.dead=>true|_=>false)&&Fy r ls n (l :: seen)
 | _,_,_,_=>false
def Fz (n:Nat) (L mv:List Nat) (j:Nat):Nat:=match gM j mv with
 | true=>n+Ie j mv
 | false=>yt L (n+mv.length) j
def EW (g:Nat->Nat) (bs:List Slot):List Nat->List Slot
 | []=>[]
 | j :: r=>(match bs[j]? with|some x=>rD g x|none=>.dead) :: EW g bs r
def UC (b:List Slot) (L mv:List Nat) (bs:List Slot):List Slot :=
 wA (Fz b.length L mv) (λj=>gM j mv) 0 bs (Cy (yt L b.length) mv b)++EW (Fz b.length L mv) bs mv
theorem Kb {j:Nat}:∀{l:List Nat},gM j l=true->l[Ie j l]?=some j
 | [],h=>by simp [gM] at h
 | x :: r,h=>by
  simp only [gM,v5] at h
  unfold Ie
  split
  ·rename_i e
   rw [pe e];rfl
  ·rename_i e
   rw [e] at h
   simp only [jA,false_or] at h
   simpa using Kb h
theorem aps {l:List Nat} (hn:l.Nodup) {i j:Nat} (h:l[i]?=some j):Ie j l=i:=by
 have hm:gM j l=true:=Ax.2 (cb h)
 have h1:=Kb hm
 have l1:=(bY.1 h1)
 have l2:=(bY.1 h)
 obtain ⟨a1,a2⟩:=l1
 obtain ⟨b1,b2⟩:=l2
 exact (List.getElem_inj hn).1 (a2.trans b2.symm)
theorem SF (g:Nat->Nat) (sk:Nat->Bool):∀(bs:List Slot) (j:Nat) (b:List Slot),(wA g sk j bs b).length=b.length
 | [],_,_=>rfl
 | x :: r,j,b=>by
  rw [wA,SF g sk r]
  split<;>simp
theorem aag (g:Nat->Nat):∀(mv:List Nat) (b:List Slot),(Cy g mv b).length=b.length
 | [],_=>rfl
 | j :: r,b=>by rw [Cy,aag g r];simp
theorem aah (g:Nat->Nat) (bs:List Slot):∀mv:List Nat,(EW g bs mv).length=mv.length
 | []=>rfl
 | j :: r=>by simp [EW,aah g bs r]
theorem aa6 (g:Nat->Nat) (bs:List Slot):∀(mv:List Nat) (i j:Nat),mv[i]?=some j->(EW g bs mv)[i]?=some (match bs[j]? with|some x=>rD g x|none=>.dead)
 | [],i,j,h=>by simp at h
 | k :: r,0,j,h=>by simp at h;subst h;rfl
 | k :: r,i+1,j,h=>by simpa [EW] using aa6 g bs r i j (by simpa using h)
theorem SX (g:Nat->Nat):∀(mv:List Nat) (b:List Slot) (l:Nat),l < b.length->(Cy g mv b)[l]?=if mv.any (λj=>Nat.beq (g j) l) then some .dead else b[l]?
 | [],b,l,_=>by simp [Cy]
 | j :: r,b,l,hl=>by
  rw [Cy,SX g r _ l (by simpa using hl)]
  by_cases h1:r.any (λj=>Nat.beq (g j) l)=true
  ·simp [h1]
  ·simp only [h1,List.any_cons]
   by_cases h2:g j=l
   ·subst h2;simp [hl]
   ·have:Nat.beq (g j) l=false:=by rw [<-Bool.not_eq_true,G5];exact h2
    simp [this,eY h2]
theorem TP (g:Nat->Nat) (sk:Nat->Bool):∀(bs:List Slot) (j:Nat) (b:List Slot) (l:Nat),l < b.length ->
  (∀i i',i < bs.length->i' < bs.length->sk (j+i)=false->sk (j+i')=false->g (j+i)=l->g (j+i')=l->i=i') ->
  (wA g sk j bs b)[l]?=match (List.range bs.length).find? (λi=>!sk (j+i)&&Nat.beq (g (j+i)) l) with
   | some i=>(bs[i]?).map (rD g)
   | none=>b[l]?
 | [],j,b,l,_,_=>by simp [wA]
 | x :: r,j,b,l,hl,hd=>by
  have yu:l < (match sk j with|true=>b|false=>b.set (g j) (rD g x)).length:=by split<;>simpa using hl
  have e:∀i,j+1+i=j+(i+1):=λi=>by omega
  rw [wA,TP g sk r (j+1) _ l yu (λi i' h1 h2 h3 h4 h5 h6=>by
   rw [e] at h3 h5
   rw [e] at h4 h6
   have:=hd (i+1) (i'+1) (by simpa using h1) (by simpa using h2) h3 h4 h5 h6
   omega)]
  rw [AG,List.range_succ_eq_map,List.find?_cons,List.find?_map]
  simp only [v7,e]
  by_cases h0:(!sk j&&Nat.beq (g j) l)=true
  ·simp only [h0]
   simp only [er,p8,G5] at h0
   have VC:(List.range r.length).find? (λi=>!sk (j+(i+1))&&Nat.beq (g (j+(i+1))) l)=none:=by
    rw [Te]
    intro i hi hc
    simp only [er,p8,G5] at hc
    have:=hd 0 (i+1) (by simp) (by simpa using hi) (by simpa using h0.1) hc.1 (by simpa using h0.2) hc.2
    omega
   rw [VC]
   simp only [h0.1]
   rw [<-h0.2,qM (by rw [h0.2];exact hl)]
   rfl
  ·have qp:(!sk j&&Nat.beq (g j) l)=false:=by cases hq:(!sk j&&Nat.beq (g j) l) with|false=>rfl|true=>exact absurd hq h0
   simp only [qp,N1]
   have hb:(match sk j with|true=>b|false=>b.set (g j) (rD g x))[l]?=b[l]?:=by
    cases hs:sk j with
    | true=>rfl
    | false =>
     rw [hs] at qp
     simp only [Bool.not_false,JR] at qp
     exact eY (λe=>by rw [e] at qp;simp at qp)
   rw [hb]
   cases (List.range r.length).find? (λi=>!sk (j+(i+1))&&Nat.beq (g (j+(i+1))) l) with
   | none=>rfl
   | some i=>simp
theorem T9:∀xs:List SV,ra xs xs
 | []=>trivial
 | x :: r=>by
  simp only [ra]
  split
  ·exact T9 r
  ·exact ⟨.refl _,T9 r⟩
theorem abE:∀{io:List Slot} {L:List Nat} {n:Nat} {seen:List Nat},Fy io L n seen=true->L.length=io.length /\
  (∀(i:Nat) (x:Slot) (l:Nat),io[i]?=some x->L[i]?=some l->l < n\/x=.dead)/\(∀(i l:Nat),L[i]?=some l->l < n->l∉seen) /\
  (∀(i i' l:Nat),L[i]?=some l->L[i']?=some l->l < n->i=i')
 | [],[],n,seen,_=>by simp
 | [],_ :: _,_,_,h=>by simp [Fy] at h
 | _ :: _,[],_,_,h=>by simp [Fy] at h
 | x :: r,l :: ls,n,seen,h=>by
  simp only [Fy,er] at h
  obtain ⟨h1,h2⟩:=h
  obtain ⟨g1,g2,g3,g4⟩:=abE h2
  have uD:(l < n->l∉seen)/\(l < n\/x=.dead):=by
   split at h1
   ·rename_i e
    have:l < n:=Hf e
    simp only [p8,<-Bool.not_eq_true,Ax] at h1
    exact ⟨λ_=>h1,.inl this⟩
   ·rename_i e
    have e:¬l < n:=λh=>by
     have:=xE h
     unfold Nat.blt at e
     rw [this] at e
     cases e
    refine ⟨λh=>absurd h e,.inr ?_⟩
    split at h1
    ·rfl
    ·cases h1
  refine ⟨by simp [g1],?_,?_,?_⟩
  ·intro i y l' hy hl
   cases i with
   | zero=>simp at hy hl;subst hy hl;exact uD.2
   | succ i=>exact g2 i y l' (by simpa using hy) (by simpa using hl)
  ·intro i l' hl hn
   cases i with
   | zero=>simp at hl;subst hl;exact uD.1 hn
   | succ i=>exact λhm=>g3 i l' (by simpa using hl) hn (AB _ hm)
  ·intro i i' l' hi uB hn
   cases i with
   | zero =>
    simp at hi;subst hi
    cases i' with
    | zero=>rfl
    | succ i'=>exact absurd (List.mem_cons_self) (g3 i' l (by simpa using uB) hn)
   | succ i =>
    cases i' with
    | zero=>simp at uB;subst uB;exact absurd (List.mem_cons_self) (g3 i l (by simpa using hi) hn)
    | succ i'=>rw [g4 i i' l' (by simpa using hi) (by simpa using uB) hn]
theorem adF (mv:List Nat):∀(b:List Slot) (j m:Nat),j+b.length<=m->nh (Nat.ble m) (tj mv j b)=false
 | [],_,_,_=>rfl
 | x :: r,j,m,h=>by
  simp only [tj,nh,adF mv r (j+1) m (by simp at h;omega),Tx]
  have hj:Nat.ble m j=false:=by
   cases e:Nat.ble m j with
   | false=>rfl
   | true=>have:=Hf e;simp at h;omega
  split
  ·rfl
  ·cases x<;>simp [rL,kH,hj]
theorem adG {L:List Nat} {d j l:Nat} (h:L[j]?=some l):yt L d j=l:=by unfold yt;rw [h]
theorem adH {L:List Nat} {d j:Nat} (h:L[j]?=none):yt L d j=d:=by unfold yt;rw [h]
theorem bV.io {P:Unit->Program} {fid:FuncId} {Sp:na} (I:iK P fid Sp) {S args:List SV} {b:List Slot} {k:List Slot->SV->Prop} (a:Sp.α) (L:List Nat)
  (cv:Fy (Sp.io a) L b.length []=true) (oF:dW args (sE (yt L b.length) (Sp.args a))) (Ys:nQ b (wA (yt L b.length) (λ_=>false) 0 (Sp.io a) b))
  (fe:Bg λ_=>Sp.pre a) (hk:∀y,Hyp (λ_=>Sp.post a y)->k (UC b L Sp.mv (Sp.ko a y)) (fE (Fz b.length L Sp.mv) (Sp.res a y))):bV S P fid args b k:=by
 refine ⟨λf η H ac w hS hd D=>?_⟩
 obtain ⟨hlen,aR,_,Qk⟩:=abE cv
 let io:=Sp.io a
 let n:=b.length
 let σ:=yt L n
 let b1:=wA σ (λ_=>false) 0 io b
 have jL:b1.length=n:=SF _ _ _ _ _
 have D1:Den f ⟨args,b1⟩ η H ac w:=D.weaken ⟨T9 _,Ys⟩
 have σL:∀i,i < io.length->∃l,L[i]?=some l/\σ i=l:=λi hi=>⟨_,ep (by rw [hlen];exact hi),adG (ep (by rw [hlen];exact hi))⟩
 have aty:∀i,io.length<=i->σ i=n:=λi hi=>adH (mA (by rw [hlen];exact hi))
 have Ig:∀i i' l,i < io.length->i' < io.length->σ i=l->σ i'=l->l < n->i=i':=by
  intro i i' l h1 h2 h3 h4 h5
  obtain ⟨l1,a1,a2⟩:=σL i h1
  obtain ⟨l2,c1,c2⟩:=σL i' h2
  exact Qk i i' l (by rw [a1,<-a2,h3]) (by rw [c1,<-c2,h4]) h5
 have IQ:∀i x,io[i]?=some x->σ i < n\/x=.dead:=by
  intro i x hx
  obtain ⟨l,a1,a2⟩:=σL i (bY.1 hx).1
  rw [a2];exact aR i x l hx a1
 have ahh:∀l,l < n->b1[l]?=match (List.range io.length).find? (λi=>Nat.beq (σ i) l) with
   | some i=>(io[i]?).map (rD σ)
   | none=>b[l]?:=by
  intro l hl
  have:=TP σ (λ_=>false) io 0 b l hl (λi i' h1 h2 _ _ h3 h4=>by
   simp only [s6] at h3 h4
   exact Ig i i' l h1 h2 h3 h4 hl)
  simpa using this
 have find:∀i l,i < io.length->σ i=l->l < n->(List.range io.length).find? (λi=>Nat.beq (σ i) l)=some i:=by
  intro i l h1 h2 h3
  cases hf:(List.range io.length).find? (λi=>Nat.beq (σ i) l) with
  | none =>
   rw [Te] at hf
   exact absurd (by simpa using h2) (hf i (by simpa using h1))
  | some i' =>
   have g1:=N9 hf
   have g2:=NW hf
   simp at g1 g2
   rw [Ig i i' l h1 g2 h2 g1 h3]
 have Mq:∀i x,io[i]?=some x->σ i < n->b1[σ i]?=some (rD σ x):=by
  intro i x hx hl
  rw [ahh _ hl,find i _ (bY.1 hx).1 rfl hl]
  simp only [hx]
  rfl
 have q1:∀i,Live.un=bg b1 (σ i)\/bg io i=bg b1 (σ i)\/bg io i=.dead:=by
  intro i
  cases hx:io[i]? with
  | none =>
   left
   rw [aty i (by simpa using hx)]
   simp [bg,jL]
  | some x =>
   rcases IQ i x hx with h|h
   ·right;left
    rw [df (Mq i x hx h),df hx,vU]
   ·right;right
    rw [df hx,h];rfl
 have KW:∀i,bg io i=.live->σ i < n/\i < io.length:=by
  intro i h
  obtain ⟨x,hx,hl⟩:=vf h
  rcases IQ i x hx with h|h
  ·exact ⟨h,(bY.1 hx).1⟩
  ·rw [h] at hl;cases hl
 let η':Nat->Value:=λi=>η (σ i)
 have T1:jJ η' η' (λi=>bg b1 (σ i)) (bg io):=by
  intro i
  rcases q1 i with h|h|h
  ·show match bg b1 (σ i) with|.un=>True|.dead=>_|.live=>_
   rw [<-h];trivial
  ·show match bg b1 (σ i) with|.un=>True|.dead=>_|.live=>_
   rw [<-h]
   cases hq:bg io i<;>simp
  ·show match bg b1 (σ i) with|.un=>True|.dead=>_|.live=>_
   cases hq:bg b1 (σ i)<;>simp [h]
 have WK:∀(i:Nat) (x:Slot),io[i]?=some x->lh η' (bg io) H w i x:=by
  intro i x hx
  rcases IQ i x hx with h|h
  ·exact (aa5.1 (D1.sl _ _ (Mq i x hx h))).Qm T1 λ_=>rfl
  ·rw [h];trivial
 let F':bR:=λbl=>@ite _ (∃l,bg b1 l=.live/\(∀i,i < io.length->σ i≠l)/\dt (η l)=some bl) (Classical.propDecidable _) (w.heap[bl]?) (f.F bl)
 have VL:∀bl o,f.F bl=some o->F' bl=some o:=by
  intro bl o h
  simp only [F']
  split
  ·rename_i hc
   obtain ⟨l,h1,_,h2⟩:=hc
   rw [(D1.dh l bl h1 h2).2] at h
   cases h
  ·exact h
 have arT:∀l bl,bg b1 l=.live->(∀i,i < io.length->σ i≠l)->dt (η l)=some bl->F' bl=w.heap[bl]?:=by
  intro l bl h1 h2 h3
  simp only [F']
  rw [if_pos ⟨l,h1,h2,h3⟩]
 have atz:∀i bl,bg io i=.live->dt (η' i)=some bl->F' bl=f.F bl:=by
  intro i bl h1 h2
  simp only [F']
  rw [if_neg]
  rintro ⟨l,g1,g2,g3⟩
  obtain ⟨h3,h4⟩:=KW i h1
  have hq:bg b1 (σ i)=.live:=by
   rcases q1 i with h|h|h
   ·obtain ⟨x,hx,hl⟩:=vf h1
    rw [df (Mq i x hx h3),vU,hl]
   ·rw [<-h];exact h1
   ·rw [h1] at h;cases h
  exact g2 i h4 (D1.dj (σ i) l bl hq g1 h2 g3)
 have mP:∀i,bg io i=.live->bg b1 (σ i)=.live:=by
  intro i h1
  obtain ⟨h3,h4⟩:=KW i h1
  obtain ⟨x,hx,hl⟩:=vf h1
  rw [df (Mq i x hx h3),vU,hl]
 let f':Fr:={ F:=F',H0:=H,w0:=w,sS:=tj Sp.mv 0 io,sV:=A9 η' 0 io,dS:=[] }
 have aqp:bd η' (bg io) H (Sp.args a) ac.tmps.toList:=ja T1 (bR.le.refl H) _ _ ((pZ _ _).1 (kP oF D1.t))
 have D':Den f' ⟨Sp.args a,io⟩ η' H ⟨ac.tmps,[]⟩ w:={
  t:=aqp
  sv:=adE Sp.mv io 0 λl x hx=>by
   rw [s6]
   exact ⟨WK l x hx,df hx⟩
  d:=rfl
  h0:=bR.le.refl H
  hw:=D1.hw
  fw:=λbl o h=>by
   simp only [f',F'] at h
   split at h
   ·exact h
   ·exact D1.fw bl o h
  hf:=λbl h=>.inl h
  sl:=λl x hx=>WK l x hx
  dj:=λl l' bl h1 h2 h3 h4=>by
   have:=D1.dj (σ l) (σ l') bl (mP l h1) (mP l' h2) h3 h4
   exact Ig l l' _ (KW l h1).2 (KW l' h2).2 rfl this.symm (KW l h1).1
  dh:=λl bl h1 h2=>⟨(D1.dh (σ l) bl (mP l h1) h2).1,(atz l bl h1 h2).trans (D1.dh (σ l) bl (mP l h1) h2).2⟩
  os:=rfl
  tape:=rfl
  out:=rfl }
 refine ((I.run a fe.out).out f' η' H ⟨ac.tmps,[]⟩ w rfl rfl D').mono ?_
 rintro e w' ⟨v,b2,η2,H2,xv,rfl,⟨y,fr,own,k1,k2,k3⟩,D2,r2⟩
 have D2v:Den f' ⟨[xv],b2⟩ η2 H2 ⟨#[v],[]⟩ w':={ D2 with t:=by simp only [bd];exact ⟨v,[],rfl,r2,rfl⟩ }
 obtain ⟨H3,D3⟩:=Den.wH fr D2v
 obtain ⟨η3,D4⟩:=D3.vn (S:=tj Sp.mv 0 io) rfl own
 have WL:nh (Nat.ble io.length) f'.sS=false:=adF Sp.mv io 0 io.length (by omega)
 have D5:Den f' ⟨[Sp.res a y],Sp.ko a y⟩ η3 H3 ⟨#[v],[]⟩ w':=(D4.cut io.length WL).weaken ⟨k1,k2⟩
 let bs:=Sp.ko a y
 have eb:bs.length=io.length:=I.len a y
 let g:=Fz n L Sp.mv
 have Lp:∀(i:Nat) (x:Slot),bs[i]?=some x->gM i Sp.mv=false->∃z,io[i]?=some z/\z.live=.live:=λi x hx hm =>
  ⟨_,ep (by rw [<-eb];exact (bY.1 hx).1),I.old a i _ (ep (by rw [<-eb];exact (bY.1 hx).1)) hm⟩
 have gN:∀i,gM i Sp.mv=true->g i=n+Ie i Sp.mv:=λi h=>by simp only [g,Fz,h]
 have gO:∀i,gM i Sp.mv=false->i < io.length->g i=σ i:=λi h hi=>by
  obtain ⟨l,a1,a2⟩:=σL i hi
  simp only [g,Fz,h]
  rw [a2];exact adG a1
 have gX:∀i,gM i Sp.mv=false->io.length<=i->g i=n+Sp.mv.length:=λi h hi=>by
  simp only [g,Fz,h]
  exact adH (mA (by rw [hlen];exact hi))
 have PJ:∀i,gM i Sp.mv=true->i < io.length:=λi h=>I.mv.2 a i (Ax.1 h)
 let bk:=Cy σ Sp.mv b
 have sP:bk.length=n:=aag _ _ _
 let bn:=UC b L Sp.mv bs
 have Yt:bn=wA g (λj=>gM j Sp.mv) 0 bs bk++EW g bs Sp.mv:=rfl
 have Qs:(wA g (λj=>gM j Sp.mv) 0 bs bk).length=n:=by rw [SF,sP]
 have ahi:∀l,l < n->bn[l]?=match (List.range bs.length).find? (λi=>!gM i Sp.mv&&Nat.beq (g i) l) with
   | some i=>(bs[i]?).map (rD g)
   | none=>bk[l]?:=by
  intro l hl
  rw [Yt,nY (by rw [Qs];exact hl)]
  have:=TP g (λj=>gM j Sp.mv) bs 0 bk l (by rw [sP];exact hl) (λi i' h1 h2 h3 h4 h5 h6=>by
   simp only [s6] at h3 h4 h5 h6
   rw [eb] at h1 h2
   rw [gO i h3 h1] at h5
   rw [gO i' h4 h2] at h6
   exact Ig i i' l h1 h2 h5 h6 hl)
  simpa using this
 have Lq:∀i,i < io.length->σ i < n->gM i Sp.mv=false->bn[σ i]?=(bs[i]?).map (rD g):=by
  intro i hi hl hm
  rw [ahi _ hl]
  cases hf:(List.range bs.length).find? (λj=>!gM j Sp.mv&&Nat.beq (g j) (σ i)) with
  | none =>
   rw [Te] at hf
   have:=hf i (by rw [tX,eb];exact hi)
   rw [hm,gO i hm hi] at this
   simp at this
  | some i' =>
   have g1:=N9 hf
   have g2:=NW hf
   simp only [er,p8,G5,tX,eb] at g1 g2
   have e:=g1.2
   rw [gO i' g1.1 g2] at e
   rw [Ig i' i (σ i) g2 hi e rfl hl]
 have afO:∀l,l < n->(∀i,i < io.length->gM i Sp.mv=false->σ i≠l)->bn[l]?=bk[l]?:=by
  intro l hl eA
  rw [ahi _ hl]
  cases hf:(List.range bs.length).find? (λj=>!gM j Sp.mv&&Nat.beq (g j) l) with
  | none=>rfl
  | some i' =>
   have g1:=N9 hf
   have g2:=NW hf
   simp only [er,p8,G5,tX,eb] at g1 g2
   have e:=g1.2
   rw [gO i' g1.1 g2] at e
   exact absurd e (eA i' g2 g1.1)
 have WM:∀i,σ i < n->gM i Sp.mv=true->bn[σ i]?=some .dead:=by
  intro i hl hm
  rw [afO _ hl,SX σ Sp.mv b _ hl,if_pos]
  ·rw [JP];exact ⟨i,Ax.1 hm,by simp⟩
  ·intro i' h1 h2 h3
   rw [Ig i' i _ h1 (PJ i hm) h3 rfl hl,hm] at h2
   cases h2
 have WN:∀l,l < n->(∀i,i < io.length->σ i≠l)->bn[l]?=b1[l]?:=by
  intro l hl eA
  rw [afO l hl λi h1 _=>eA i h1,SX σ Sp.mv b _ hl,if_neg,ahh l hl]
  ·cases hf:(List.range io.length).find? (λi=>Nat.beq (σ i) l) with
   | none=>rfl
   | some i' =>
    have g1:=N9 hf
    have g2:=NW hf
    simp at g1 g2
    exact absurd g1 (eA i' g2)
  ·intro h
   rw [JP] at h
   obtain ⟨i,h1,h2⟩:=h
   exact eA i (PJ i (Ax.2 h1)) (pe h2)
 have Ve:∀i j,Sp.mv[i]?=some j->bn[n+i]?=(bs[j]?).map (rD g):=by
  intro i j h
  have hj:j < bs.length:=by rw [eb];exact PJ j (Ax.2 (cb h))
  rw [Yt,u4 (by rw [Qs];omega),Qs,abe,aa6 g bs Sp.mv i j h,ep hj]
  rfl
 have atA:bn.length=n+Sp.mv.length:=by rw [Yt,gk,Qs,aah]
 have atG:∀i x,bs[i]?=some x->x.live=.live->bn[g i]?=some (rD g x):=by
  intro i x hx hl
  have hi:i < io.length:=by rw [<-eb];exact (bY.1 hx).1
  cases hm:gM i Sp.mv with
  | true=>rw [gN i hm,Ve _ _ (Kb hm),hx];rfl
  | false =>
   obtain ⟨z,hz,kY⟩:=Lp i x hx hm
   have:σ i < n:=by
    rcases IQ i z hz with h|h
    ·exact h
    ·rw [h] at kY;cases kY
   rw [gO i hm hi,Lq i hi this hm,hx];rfl
 let ηn:Nat->Value:=λl=>if l < n then η l else match Sp.mv[l - n]? with
  | some j=>η3 j
  | none=>.nilIface
 have atB:∀i x,bs[i]?=some x->x.live=.live->gM i Sp.mv=false->η3 i=η' i:=by
  intro i x hx hl hm
  obtain ⟨z,hz,kY⟩:=Lp i x hx hm
  obtain ⟨t1,t2⟩:=acK η' Sp.mv io 0 i z hz (by rw [s6];exact hm)
  rw [s6] at t1 t2
  obtain ⟨u,hu,hr⟩:=u9 D5.sv i _ t1
  have:(A9 η' 0 io)[i]?=some u:=hu
  rw [t2] at this
  simp at this
  subst this
  exact aqo kY (WK i z hz) (by rw [df hx];exact hl) hr
 have ηG:∀i x,bs[i]?=some x->x.live=.live->ηn (g i)=η3 i:=by
  intro i x hx hl
  have hi:i < io.length:=by rw [<-eb];exact (bY.1 hx).1
  cases hm:gM i Sp.mv with
  | true =>
   rw [gN i hm]
   simp only [ηn]
   rw [if_neg (by omega),abe,Kb hm]
  | false =>
   obtain ⟨z,hz,kY⟩:=Lp i x hx hm
   have aR:σ i < n:=by
    rcases IQ i z hz with h|h
    ·exact h
    ·rw [h] at kY;cases kY
   rw [gO i hm hi]
   simp only [ηn]
   rw [if_pos aR]
   exact (atB i x hx hl hm).symm
 have TG:jJ η3 (λi=>ηn (g i)) (bg bs) (λi=>bg bn (g i)):=by
  intro i
  cases hq:bg bs i with
  | un=>trivial
  | live =>
   obtain ⟨x,hx,hl⟩:=vf hq
   left
   exact ⟨by show bg bn (g i)=.live;rw [df (atG i x hx hl),vU,hl],ηG i x hx hl⟩
  | dead =>
   show bg bn (g i)=.dead
   have hx:∃x,bs[i]?=some x/\x.live=.dead:=by
    unfold bg at hq
    split at hq
    ·exact ⟨_,by assumption,hq⟩
    ·cases hq
   obtain ⟨x,hx,hl⟩:=hx
   have hi:i < io.length:=by rw [<-eb];exact (bY.1 hx).1
   cases hm:gM i Sp.mv with
   | true=>rw [gN i hm,df (by rw [Ve _ _ (Kb hm),hx];rfl),vU,hl]
   | false =>
    rw [gO i hm hi]
    by_cases aR:σ i < n
    ·rw [df (by rw [Lq i hi aR hm,hx];rfl),vU,hl]
    ·obtain ⟨z,hz,kY⟩:=Lp i x hx hm
     rcases IQ i z hz with h|h
     ·exact absurd h aR
     ·rw [h] at kY;cases kY
 have TB:jJ η ηn (bg b1) (bg bn):=by
  intro l
  cases hq:bg b1 l with
  | un=>trivial
  | live =>
   obtain ⟨x,hx,hl⟩:=vf hq
   have mM:l < n:=by rw [<-jL];exact (bY.1 hx).1
   by_cases hc:∃i,i < io.length/\σ i=l
   ·obtain ⟨i,hi,rfl⟩:=hc
    cases hm:gM i Sp.mv with
    | true=>right;rw [df (WM i mM hm)];rfl
    | false =>
     have jk:bs[i]?=some bs[i]:=ep (by rw [eb];exact hi)
     have e:=Lq i hi mM hm
     rw [jk] at e
     cases hz:(bs[i]).live with
     | un =>
      exfalso
      have:bs[i]=.un:=by cases hy:bs[i]<;>rw [hy] at hz<;>first|rfl|cases hz
      exact I.nu a y i (by rw [<-this];exact jk)
     | dead=>right;rw [df e,vU,hz]
     | live =>
      left
      refine ⟨by rw [df e,vU,hz],?_⟩
      simp only [ηn];rw [if_pos mM]
   ·left
    refine ⟨by rw [df ((WN l mM λi hi e=>hc ⟨i,hi,e⟩).trans hx),hl],?_⟩
    simp only [ηn];rw [if_pos mM]
  | dead =>
   show bg bn l=.dead
   have hx:∃x,b1[l]?=some x/\x.live=.dead:=by
    unfold bg at hq
    split at hq
    ·exact ⟨_,by assumption,hq⟩
    ·cases hq
   obtain ⟨x,hx,hl⟩:=hx
   have mM:l < n:=by rw [<-jL];exact (bY.1 hx).1
   by_cases hc:∃i,i < io.length/\σ i=l
   ·obtain ⟨i,hi,rfl⟩:=hc
    cases hm:gM i Sp.mv with
    | true=>rw [df (WM i mM hm)];rfl
    | false =>
     have jk:bs[i]?=some bs[i]:=ep (by rw [eb];exact hi)
     have e:=Lq i hi mM hm
     rw [jk] at e
     rw [df e,vU]
     cases hz:(bs[i]).live with
     | un =>
      exfalso
      have:bs[i]=.un:=by cases hy:bs[i]<;>rw [hy] at hz<;>first|rfl|cases hz
      exact I.nu a y i (by rw [<-this];exact jk)
     | dead=>rfl
     | live =>
      exfalso
      obtain ⟨z,Bz,kY⟩:=Lp i _ jk hm
      have:=Mq i z Bz mM
      rw [hx] at this
      simp at this
      rw [this,vU,kY] at hl
      cases hl
   ·rw [df ((WN l mM λi hi e=>hc ⟨i,hi,e⟩).trans hx),hl]
 have cls:∀l x,bn[l]?=some x->x.live=.live->(∃i z,bs[i]?=some z/\z.live=.live/\g i=l/\x=rD g z)\/(l < n/\b1[l]?=some x/\∀i,i < io.length->σ i≠l):=by
  intro l x hx hl
  by_cases mM:l < n
  ·by_cases hc:∃i,i < io.length/\σ i=l
   ·obtain ⟨i,hi,rfl⟩:=hc
    cases hm:gM i Sp.mv with
    | true =>
     rw [WM i mM hm] at hx
     simp at hx;subst hx;cases hl
    | false =>
     left
     have jk:bs[i]?=some bs[i]:=ep (by rw [eb];exact hi)
     rw [Lq i hi mM hm,jk] at hx
     simp at hx;subst hx
     exact ⟨i,_,jk,by rw [vU] at hl;exact hl,gO i hm hi,rfl⟩
   ·right
    have eA:∀i,i < io.length->σ i≠l:=λi hi e=>hc ⟨i,hi,e⟩
    exact ⟨mM,by rw [<-WN l mM eA];exact hx,eA⟩
  ·left
   have mq:=(bY.1 hx).1
   rw [atA] at mq
   obtain ⟨j,hj⟩:∃j,Sp.mv[l - n]?=some j:=⟨_,ep (by omega)⟩
   have e:=Ve _ _ hj
   rw [show n+(l - n)=l by omega,hx] at e
   have Rk:gM j Sp.mv=true:=Ax.2 (cb hj)
   have eE:j < bs.length:=by rw [eb];exact PJ j Rk
   have hbj:bs[j]?=some bs[j]:=ep eE
   rw [hbj] at e
   simp at e;subst e
   refine ⟨j,_,hbj,by rw [vU] at hl;exact hl,?_,rfl⟩
   rw [gN j Rk,aps I.mv.1 hj];omega
 have Lr:∀i z,bs[i]?=some z->z.live=.live->∀bl,dt (ηn (g i))=some bl->dt (η3 i)=some bl:=λi z h1 h2 bl h=>by rw [ηG i z h1 h2] at h;exact h
 have Ls:∀l x,l < n->b1[l]?=some x->x.live=.live->∀bl,dt (ηn l)=some bl->dt (η l)=some bl:=λl x h1 h2 h3 bl h=>by
  simp only [ηn] at h;rw [if_pos h1] at h;exact h
 have others:∀l bl,bg b1 l=.live->(∀i,i < io.length->σ i≠l)->dt (η l)=some bl->∃o,w.heap[bl]?=some o/\F' bl=some o/\w'.heap[bl]?=some o:=by
  intro l bl h1 h2 h3
  have hb:=D1.EC h1 h3
  have e:=arT l bl h1 h2 h3
  rw [abb hb] at e
  exact ⟨_,abb hb,e,D5.fw bl _ e⟩
 have Dn:Den f ⟨[],bn⟩ ηn H3 ⟨#[],[]⟩ w':={
  t:=by simp [bd]
  sv:=ja TB D5.h0 _ _ D1.sv
  d:=by rw [hd];rfl
  h0:=D1.h0.trans D5.h0
  hw:=D5.hw
  fw:=λbl o h=>D5.fw bl o (VL bl o h)
  hf:=λbl h=>by
   rcases D5.hf bl h with h1|h1
   ·exact D1.hf bl h1
   ·right
    cases hF:f.F bl with
    | none=>rfl
    | some o=>have h1:F' bl=none:=h1;rw [VL bl o hF] at h1;cases h1
  sl:=λl x hx=>by
   cases hl:x.live with
   | live =>
    rcases cls l x hx hl with ⟨i,z,hz,kY,rfl,rfl⟩|⟨mM,wX,eA⟩
    ·refine aa5.2 ?_
     exact (D5.sl i z hz).Qm TG λ_=>ηG i z hz kY
    ·refine (D1.sl l x wX).kept TB D5.h0 (by simp only [ηn];rw [if_pos mM]) λbl hb=>?_
     obtain ⟨o,h1,_,h2⟩:=others l bl (by rw [df wX];exact hl) eA hb
     rw [h1,h2]
   | un=>cases x<;>first|trivial|cases hl
   | dead=>cases x<;>first|trivial|cases hl
  dj:=λl l' bl h1 h2 h3 h4=>by
   obtain ⟨x,hx,hl⟩:=vf h1
   obtain ⟨x',vx,yu⟩:=vf h2
   rcases cls l x hx hl with ⟨i,z,hz,kY,rfl,rfl⟩|⟨mM,wX,eA⟩<;>rcases cls l' x' vx yu with ⟨i',z',F4,Qt,rfl,rfl⟩|⟨ahj,Qu,atC⟩
   ·rw [D5.dj i i' bl (by rw [df hz];exact kY) (by rw [df F4];exact Qt) (Lr i z hz kY bl h3) (Lr i' z' F4 Qt bl h4)]
   ·exfalso
    obtain ⟨o,_,e,_⟩:=others l' bl (by rw [df Qu];exact yu) atC (Ls l' x' ahj Qu yu bl h4)
    have:=(D5.dh i bl (by rw [df hz];exact kY) (Lr i z hz kY bl h3)).2
    have:F' bl=none:=this
    rw [e] at this;cases this
   ·exfalso
    obtain ⟨o,_,e,_⟩:=others l bl (by rw [df wX];exact hl) eA (Ls l x mM wX hl bl h3)
    have:=(D5.dh i' bl (by rw [df F4];exact Qt) (Lr i' z' F4 Qt bl h4)).2
    have:F' bl=none:=this
    rw [e] at this;cases this
   ·exact D1.dj l l' bl (by rw [df wX];exact hl) (by rw [df Qu];exact yu) (Ls l x mM wX hl bl h3) (Ls l' x' ahj Qu yu bl h4)
  dh:=λl bl h1 h2=>by
   obtain ⟨x,hx,hl⟩:=vf h1
   rcases cls l x hx hl with ⟨i,z,hz,kY,rfl,rfl⟩|⟨mM,wX,eA⟩
   ·obtain ⟨e1,e2⟩:=D5.dh i bl (by rw [df hz];exact kY) (Lr i z hz kY bl h2)
    refine ⟨e1,?_⟩
    cases hF:f.F bl with
    | none=>rfl
    | some o=>have e2:F' bl=none:=e2;rw [VL bl o hF] at e2;cases e2
   ·have hb:=Ls l x mM wX hl bl h2
    have hq:bg b1 l=.live:=by rw [df wX];exact hl
    obtain ⟨o,_,e,_⟩:=others l bl hq eA hb
    refine ⟨?_,(D1.dh l bl hq hb).2⟩
    cases hH:H3 bl with
    | none=>rfl
    | some o' =>
     rcases D5.hf bl (by rw [hH];simp) with h|h
     ·exact absurd (D1.dh l bl hq hb).1 h
     ·have h:F' bl=none:=h
      rw [e] at h;cases h
  os:=D5.os.trans D1.os
  tape:=D5.tape.trans D1.tape
  out:=D5.out.trans D1.out }
 have IS:rel ηn (bg bn) H3 (fE g (Sp.res a y)) v:=by
  have:=D5.t
  simp only [bd] at this
  obtain ⟨u,us,e,h1,rfl⟩:=this
  simp at e;subst e
  exact (Ko _ _).2 (xH TG (bR.le.refl _) _ _ h1)
 exact ⟨v,bn,ηn,H3,_,rfl,hk y ⟨k3.out⟩,Dn,IS⟩
def afP (x:Slot):Bool:=match x.live with
 | .live=>true
 | _=>false
def FB (mv:List Nat):Nat->List Slot->Bool
 | _,[]=>true
 | j,x :: r=>(gM j mv||afP x)&&FB mv (j+1) r
def IT:List Slot->Bool
 | []=>true
 | .un :: _=>false
 | _ :: r=>IT r
def uF (n:Nat):List Nat->Bool
 | []=>true
 | j :: r=>Nat.blt j n&&!gM j r&&uF n r
def Rl (mv:List Nat) (io ko:List Slot):Bool:=Nat.beq ko.length io.length&&FB mv 0 io&&IT ko&&uF io.length mv
theorem adI {mv:List Nat}:∀{io:List Slot} {j0:Nat},FB mv j0 io=true->∀(j:Nat) (z:Slot),io[j]?=some z->gM (j0+j) mv=false->z.live=.live
 | [],_,_,j,z,h,_=>by simp at h
 | x :: r,j0,h,0,z,hz,he=>by
  simp at hz;subst hz
  simp only [FB,er,v5] at h
  simp only [v7] at he
  rw [he] at h
  have h1:=h.1
  simp only [jA,false_or] at h1
  unfold afP at h1
  split at h1
  ·assumption
  ·cases h1
 | x :: r,j0,h,j+1,z,hz,he=>by
  simp only [FB,er] at h
  exact adI h.2 j z (by simpa using hz) (by rw [show j0+1+j=j0+(j+1) by omega];exact he)
theorem aeE:∀{io:List Slot},IT io=true->∀j:Nat,io[j]?≠some .un
 | [],_,j=>by simp
 | x :: r,h,0=>by
  intro e
  simp at e;subst e
  simp [IT] at h
 | x :: r,h,j+1=>by
  have:IT r=true:=by cases x<;>first|exact h|simp [IT] at h
  simpa using aeE this j
theorem aeF {n:Nat}:∀{mv:List Nat},uF n mv=true->mv.Nodup/\∀j∈mv,j < n
 | [],_=>by simp
 | j :: r,h=>by
  simp only [uF,er,p8] at h
  obtain ⟨⟨h1,h2⟩,h3⟩:=h
  obtain ⟨g1,g2⟩:=aeF h3
  refine ⟨rB.2 ⟨λhm=>?_,g1⟩,λi hi=>?_⟩
  ·rw [Ax.2 hm] at h2;cases h2
  ·rcases ez.1 hi with rfl|hi
   ·exact Hf h1
   ·exact g2 i hi
structure ahk (PP:Unit->Program) (X:Ctx) (lv:Nat) (fn:Func) (Sp:na) (a:Sp.α):Prop where
 out:match fn.body with
  | some c=>yr (tj Sp.mv 0 (Sp.io a)) false PP X lv c (start (Sp.args a) fn.ntmps (Sp.io a)) (Bh X fn.results.toList (IoK Sp a))
  | none=>False
theorem aoi {PP:Unit->Program} {X:Ctx} (C:X.Ok (PP ())) (IL:px X) {lv:Nat} {fid:FuncId} {fn:Func} (F:oa (PP ()) fid fn) (mL:p9 fn=true) {Sp:na}
  (hw:∀a y,Rl Sp.mv (Sp.io a) (Sp.ko a y)=true) (hm:∀a,FB Sp.mv 0 (Sp.io a)=true/\uF (Sp.io a).length Sp.mv=true) (Mr:Sp.mv.Nodup) (h0:∀a,Sp.pre a->ahk PP X lv fn Sp a):iK PP fid Sp:=by
 obtain ⟨c,hb⟩:=u5.1 F.body
 have hc:codeOk c=true:=by unfold p9 at mL;rw [hb] at mL;exact mL
 refine ⟨λa y=>?_,λa j z hz he=>?_,λa y j=>?_,⟨Mr,λa=>(aeF (hm a).2).2⟩,λa ha=>⟨λf η H ac w hS hd D=>?_⟩⟩
 ·have:=hw a y
  simp only [Rl,er] at this
  exact pe this.1.1.1
 ·exact adI (hm a).1 j z hz (by rw [s6];exact he)
 ·have:=hw a y
  simp only [Rl,er] at this
  exact aeE this.1.2 j
 ·have h:=(h0 a ha).out
  rw [hb] at h
  exact Hh C F hb (Cb C IL hc h) f η H ac w hS hd D
end
def afQ (P:Program) (t:TypeId):TD->Bool
 | .int k=>match P.underlying t with|some (.int k')=>k == k'|_=>false
 | .bool=>match P.underlying t with|some .bool=>true|_=>false
 | .str=>match P.underlying t with|some .string=>true|_=>false
 | .sl e=>match P.underlying t with|some (.slice e')=>e == e'|_=>false
 | .ptr e=>match P.underlying t with|some (.pointer e')=>e == e'|_=>false
 | .st gs=>match P.underlying t with
  | some (.struct fs)=>(fs.toList.map λf=>(f.type,f.offset,P.cellsOf f.type)) == gs&&gs.all (λg=>Nat.blt 0 g.2.2)
  | _=>false
 | .arr n e=>match P.underlying t with|some (.array n' e')=>n == n'&&e == e'|_=>false
 | .map k v=>match P.underlying t with|some (.map k' v')=>k == k'&&v == v'|_=>false
 | .other=>match P.underlying t with|some (.struct _)=>false|some (.array _ _)=>false|some _=>true|none=>false
def Yu (P:Program) (t:TypeId) (i:TI):Bool :=
 (match P.info? t with|some inf=>inf.size == i.size&&inf.bytes == i.bytes|none=>false)&&i.zero.cells.size == i.size&&Nat.blt 0 i.size&&afQ P t i.d
theorem adJ {P:Program} {t:TypeId} {i:TI} (hz:(P.info? t).map (·.zero)=some (some i.zero)) (hb:Yu P t i=true)
  (hf:i.flat=true->i.agg=true/\∀(vs us:List Value) (w:World),vs.length=i.size->us.length=i.size ->
   rC vs us=true->rC vs i.zero.cells.toList=true->∀op x y,(op=.eql\/op=.neq) ->
   (do eqGuard op t x y (.agg vs.toArray) (.agg us.toArray);binOp op t (.agg vs.toArray) (.agg us.toArray):Sem Value).run P w =
    .ok (.bool (if op=.eql then uc vs us else !uc vs us)) w)
  (hk:∀ks,i.kd=some ks->CD P t (.ints ks):=by intro _ h;cases h):pz P t i:=by
 unfold Yu at hb
 simp only [er,beq_iff_eq] at hb
 obtain ⟨⟨⟨h1,h2⟩,h3⟩,h4⟩:=hb
 refine ⟨?_,h2,by simpa [G4] using h3,?_,hf,hk⟩
 ·cases hi:P.info? t with
  | none=>rw [hi] at hz;cases hz
  | some inf =>
   rw [hi] at hz h1
   simp at hz h1
   exact ⟨inf,rfl,h1.1,h1.2,hz⟩
 ·cases hd:i.d<;>rw [hd] at h4<;>simp only [afQ] at h4 ⊢
  case int k=>split at h4<;>first|(simp at h4;subst h4;assumption)|cases h4
  case bool=>split at h4<;>first|assumption|cases h4
  case str=>split at h4<;>first|assumption|cases h4
  case sl e=>split at h4<;>first|(simp at h4;subst h4;assumption)|cases h4
  case ptr e=>split at h4<;>first|(simp at h4;subst h4;assumption)|cases h4
  case arr n e=>split at h4<;>first|(simp at h4;obtain ⟨rfl,rfl⟩:=h4;assumption)|cases h4
  case map k v=>split at h4<;>first|(simp at h4;obtain ⟨rfl,rfl⟩:=h4;assumption)|cases h4
  case st gs =>
   split at h4
   ·rename_i fs hu
    simp only [er,beq_iff_eq,m8] at h4
    obtain ⟨e,xW⟩:=h4
    refine ⟨fs,hu,by rw [<-e];simp,λj f hj=>?_⟩
    have hg:gs[j]?=some (f.type,f.offset,P.cellsOf f.type):=by rw [<-e];simp [hj]
    have hp:=xW _ (cb hg)
    unfold Program.cellsOf at hp hg
    cases hi:P.info? f.type with
    | none=>rw [hi] at hp;simp [G4] at hp
    | some inf =>
     rw [hi] at hp hg
     refine ⟨inf,rfl,?_,by simpa using hg⟩
     have:0 < inf.size:=by simpa [G4] using hp
     omega
   ·cases h4
  case other =>
   split at h4
   ·cases h4
   ·cases h4
   ·rename_i d h5 h6 hu
    exact ⟨d,hu,λx e=>h5 x e,λn e' e=>h6 n e' e⟩
   ·cases h4
theorem UD {P : Program} {f : FuncId} {fn : Func} (h : P.funcs[f]? = some fn) (hb : (fn.body.isSome && !(fn.name == "runtime.NumGoroutine")) = true) : oa P f fn := by
 simp only [er,p8] at hb
 exact ⟨h,hb.1,hb.2⟩
theorem cD {n:Int} (h1:-9223372036854775808<=n) (h2:n<=9223372036854775807):IntKind.i64.wrap n=n:=by
 rw [IntKind.wrap_i64]
 omega
def Ih (P:Program) (t:TypeId) (z:Value):Bool :=
 match P.underlying t,z with
 | some (.int _),.int _ _=>true
 | some .bool,.bool _=>true
 | some .string,.string _=>true
 | _,_=>false
section
variable {P:Program}
theorem amR {t:TypeId} {z:Value} (hf:Ih P t z=true) (d:Nat) (a b:Value) (h:we a b=true) (hz:we a z=true) (w:World) :
  (Op.equalIn (d+1) t a b).run P w=.ok (CC a b) w:=by
 unfold Ih at hf
 split at hf
 ·rename_i k k' n hu
  cases a<;>simp [we] at hz
  cases b<;>simp [we] at h
  subst h
  simp [Op.equalIn,run_underlying hu,CC]
 ·rename_i c hu
  cases a<;>simp [we] at hz
  cases b<;>simp [we] at h
  simp [Op.equalIn,run_underlying hu,CC]
 ·rename_i c hu
  cases a<;>simp [we] at hz
  cases b<;>simp [we] at h
  simp [Op.equalIn,run_underlying hu,CC]
 ·cases hf
theorem Ua {t:TypeId} {z:Value} (hf:Ih P t z=true) (cs:Array Value) (off:Nat) (v:Value) (hv:cs[off]?=some v) (w:World):(part t cs off).run P w=.ok v w:=by
 unfold Ih at hf
 split at hf
 ·rename_i k k' n hu;simp [part,isAgg,run_underlying hu,hv]
 ·rename_i c hu;simp [part,isAgg,run_underlying hu,hv]
 ·rename_i c hu;simp [part,isAgg,run_underlying hu,hv]
 ·cases hf
def zc (P:Program):List Field->List Value->Nat->Bool
 | [],[],_=>true
 | f :: fs, z :: zs, off => f.offset == off && !(f.name == "_") && Ih P f.type z && zc P fs zs (off + 1)
 | _,_,_=>false
theorem SG (d:Nat) (xs ys:Array Value):∀(fs:List Field) (zs vs us:List Value) (off:Nat),zc P fs zs off=true->xs.toList.drop off=vs->ys.toList.drop off=us->rC vs us=true->rC vs zs=true ->
  ∀w,(Op.eqFields (d+1) xs ys fs).run P w=.ok (uc vs us) w
 | [],zs,vs,us,off,hs,hx,hy,h1,h2,w=>by
  cases zs with
  | cons _ _=>simp [zc] at hs
  | nil =>
   cases vs with
   | cons _ _=>simp [rC] at h2
   | nil=>simp [Op.eqFields,uc]
 | f :: fs,[],vs,us,off,hs,hx,hy,h1,h2,w=>by simp [zc] at hs
 | f :: fs,z :: zs,vs,us,off,hs,hx,hy,h1,h2,w=>by
  simp only [zc,er,beq_iff_eq,p8] at hs
  obtain ⟨⟨⟨ho,hn⟩,hf⟩,hs⟩:=hs
  cases vs with
  | nil=>simp [rC] at h2
  | cons v vs =>
   cases us with
   | nil=>simp [rC] at h1
   | cons u us =>
    simp only [rC,er] at h1 h2
    have Yv:xs[off]?=some v:=by
     have:=congrArg (λl=>l[0]?) hx
     simp only [lK,S7,v7] at this
     simpa using this
    have hux:ys[off]?=some u:=by
     have:=congrArg (λl=>l[0]?) hy
     simp only [lK,S7,v7] at this
     simpa using this
    have vx:xs.toList.drop (off+1)=vs:=by rw [<-List.drop_drop,hx];rfl
    have Bv:ys.toList.drop (off+1)=us:=by rw [<-List.drop_drop,hy];rfl
    have ih:=SG d xs ys fs zs vs us (off+1) hs vx Bv h1.2 h2.2 w
    have wQ : f.name ≠ "_" := by simpa using hn
    simp only [Op.eqFields]
    rw [if_pos wQ]
    simp only [Sem.run_bind,ho,Ua hf xs off v Yv,Ua hf ys off u hux,Result.andThen_ok,amR hf d v u h1.1 h2.1,uc]
    cases hq:CC v u
    ·simp
    ·simpa using ih
theorem amu {t:TypeId} {zs:List Value} (hu:P.underlying t=some (.struct (P.fieldsOf t))) (hp:P.stoodInHeld t=false) (hg:P.eqGuardType P.depth t=false) (hs:zc P (P.fieldsOf t).toList zs 0=true)
  (vs us:List Value) (w:World) (h1:rC vs us=true) (h2:rC vs zs=true) (op:BinOp) (x y:Operand) (fg:op=.eql\/op=.neq) :
  (do eqGuard op t x y (.agg vs.toArray) (.agg us.toArray);binOp op t (.agg vs.toArray) (.agg us.toArray):Sem Value).run P w=.ok (.bool (if op=.eql then uc vs us else !uc vs us)) w:=by
 have he:=SG (P:=P) 9998 vs.toArray us.toArray (P.fieldsOf t).toList zs vs us 0 hs (by simp) (by simp) h1 h2 w
 have hr:=run_equalIn_struct w 9999 t vs.toArray us.toArray hu hp
 rcases fg with rfl|rfl
 ·simp only [Sem.run_bind,run_eqGuard_agg w _ t x y _ _ hg,Result.andThen_ok,run_eql_struct w]
  rw [hr,he];rfl
 ·simp only [Sem.run_bind,run_eqGuard_agg w _ t x y _ _ hg,Result.andThen_ok,run_neq_struct w]
  rw [hr,he];rfl
theorem TQ:∀{ks:List IntKind} {l l':List Int},l.length=ks.length->l'.length=ks.length->rC (gn ks l) (gn ks l')=true
 | [],[],[],_,_=>rfl
 | k :: ks,a :: l,b :: l',h,h'=>by
  simp only [gn,rC,we,beq_self_eq_true,JR]
  exact TQ (by simpa using h) (by simpa using h')
 | [],_ :: _,_,h,_=>by simp at h
 | [],[],_ :: _,_,h=>by simp at h
 | _ :: _,[],_,h,_=>by simp at h
 | _ :: _,_ :: _,[],_,h=>by simp at h
theorem abF:∀ks:List IntKind,(ks.map λk=>Value.int k 0)=gn ks (ks.map λ_=>0)
 | []=>rfl
 | k :: ks=>by simp only [lY,gn,abF ks]
theorem adK:∀{ks:List IntKind} {l l':List Int},l.length=ks.length->l'.length=ks.length->uc (gn ks l) (gn ks l')=decide (l=l')
 | [],[],[],_,_=>rfl
 | k :: ks,a :: l,b :: l',h,h'=>by
  simp only [gn,uc,CC,adK (ks:=ks) (l:=l) (l':=l') (by simpa using h) (by simpa using h'),N6]
  by_cases e:a=b<;>simp [e]
 | [],_ :: _,_,h,_=>by simp at h
 | [],[],_ :: _,_,h=>by simp at h
 | _ :: _,[],_,h,_=>by simp at h
 | _ :: _,_ :: _,[],_,h=>by simp at h
theorem aaa (em:Bool) (cs:Array Value):∀(fs:List Field) (ks:List IntKind) (l:List Int) (off:Nat),zc P fs (ks.map λk=>.int k 0) off=true->cs.toList.drop off=gn ks l->l.length=ks.length ->
  ∀ w, (forIn (m := Sem) fs PUnit.unit λf _ => if f.name ≠ "_" then (do Instr.checkKey em 9999 f.type (<- part f.type cs f.offset); pure (ForInStep.yield PUnit.unit)) else pure (ForInStep.yield PUnit.unit)).run P w = .ok PUnit.unit w
 | [],ks,l,off,_,_,_,w=>by simp
 | f :: fs,[],l,off,hs,_,_,w=>by simp [zc] at hs
 | f :: fs,k :: ks,[],off,_,_,h,w=>by simp at h
 | f :: fs,k :: ks,a :: l,off,hs,hx,hl,w=>by
  simp only [zc,lY,er,beq_iff_eq,p8] at hs
  obtain ⟨⟨⟨ho,hn⟩,hf⟩,hs⟩:=hs
  have Yv:cs[off]?=some (.int k a):=by
   have:=congrArg (λl=>l[0]?) hx
   simp only [lK,gn,S7,v7] at this
   simpa using this
  have vx:cs.toList.drop (off+1)=gn ks l:=by rw [<-List.drop_drop,hx];rfl
  have ih:=aaa em cs fs ks l (off+1) hs vx (by simpa using hl) w
  have wQ : f.name ≠ "_" := by simpa using hn
  have hk:P.underlying f.type=some (.int k)\/∃k',P.underlying f.type=some (.int k'):=by
   unfold Ih at hf
   split at hf
   ·rename_i k0 k' n hu _;exact .inr ⟨_,hu⟩
   ·rename_i e;cases e
   ·rename_i e;cases e
   ·cases hf
  have Ri:∀w,(Instr.checkKey em 9999 f.type (.int k a)).run P w=.ok () w:=λw=>by
   show (Instr.checkKey em (9998+1) f.type (.int k a)).run P w=_
   rw [Instr.checkKey]
   rcases hk with hk|⟨k',hk⟩<;>simp only [Sem.run_bind,run_underlying hk,Result.andThen_ok]<;>rfl
  rw [List.forIn_cons]
  simp only [wQ,ne_eq,not_false_eq_true,if_true,Sem.run_bind,ho,Ua hf cs off _ Yv,Result.andThen_ok,Ri,Sem.run_pure]
  exact ih
theorem amS {t:TypeId} {ks:List IntKind} (hu:P.underlying t=some (.struct (P.fieldsOf t))) (hp:P.stoodInHeld t=false) (hs:zc P (P.fieldsOf t).toList (ks.map λk=>.int k 0) 0=true):CD P t (.ints ks) where
 check:=λn hn em w=>by
  have h:=aaa (P:=P) em (gn ks n).toArray (P.fieldsOf t).toList ks n 0 hs (by simp) hn w
  show (Instr.checkKey em (9999+1) t (.agg (gn ks n).toArray)).run P w=_
  rw [Instr.checkKey]
  simp only [Sem.run_bind,run_underlying hu,Result.andThen_ok]
  rw [<-Array.forIn_toList]
  simp at h ⊢
  rw [h]
  rfl
 find:=λn hn es hes w=>by
  have eq:∀(n':List Int),n'.length=ks.length->(Op.equal t (.agg (gn ks n).toArray) (.agg (gn ks n').toArray)).run P w=.ok (decide (n=n')) w:=by
   intro n' ot
   have he:=SG (P:=P) 9998 (gn ks n).toArray (gn ks n').toArray (P.fieldsOf t).toList _ (gn ks n) (gn ks n') 0 hs (by simp) (by simp) (TQ hn ot) (by rw [abF];exact TQ hn (by simp)) w
   have hr:=run_equalIn_struct w 9999 t (gn ks n).toArray (gn ks n').toArray hu hp
   unfold Op.equal
   rw [show Op.maxDepth=9999+1 from rfl,hr,he,adK hn ot]
  have ask:∀(es:List MapEntry) (i:Nat),(∀e∈es,∃n',KD.ok (.ints ks) n'/\e.key=KD.enc (.ints ks) n')->((Instr.findAsking t (.agg (gn ks n).toArray) es i).run P w=.ok none w/\∀e∈es,e.key≠.agg (gn ks n).toArray) \/
    ∃j e,(Instr.findAsking t (.agg (gn ks n).toArray) es i).run P w=.ok (some (i+j,e.val)) w/\es[j]?=some e/\e.key=.agg (gn ks n).toArray:=by
   intro es
   induction es with
   | nil=>intro i _;exact .inl ⟨by simp [Instr.findAsking],by simp⟩
   | cons e es ih =>
    intro i h
    obtain ⟨n',h1,h2⟩:=h e (by simp)
    have h2:e.key=.agg (gn ks n').toArray:=h2
    have hq:=eq n' h1
    by_cases wQ:n=n'
    ·right
     refine ⟨0,e,?_,rfl,by rw [h2,wQ]⟩
     have hd:decide (n=n')=true:=by simpa using wQ
     simp only [Instr.findAsking,Sem.run_bind,h2,hq,hd,Result.andThen_ok]
     simp
    ·have cT:e.key≠.agg (gn ks n).toArray:=by
      rw [h2]
      intro h3
      exact wQ (KD.inj (k:=.ints ks) h1 hn h3).symm
     have hd:decide (n=n')=false:=by simpa using wQ
     rcases ih (i+1) (λe he=>h e (by simp [he])) with ⟨g1,g2⟩|⟨j,e',g1,g2,g3⟩
     ·left
      refine ⟨?_,?_⟩
      ·simp only [Instr.findAsking,Sem.run_bind,h2,hq,hd,Result.andThen_ok]
       simpa using g1
      ·intro e' gR
       rcases ez.1 gR with rfl|gR
       ·exact cT
       ·exact g2 e' gR
     ·right
      refine ⟨j+1,e',?_,by simpa using g2,g3⟩
      simp only [Instr.findAsking,Sem.run_bind,h2,hq,hd,Result.andThen_ok]
      rw [show i+(j+1)=i+1+j by omega]
      simpa using g1
  show ((Instr.findKey t (.agg (gn ks n).toArray) es).run P w=.ok none w/\_)\/_
  have base:(Instr.findKey t (.agg (gn ks n).toArray) es).run P w=(Instr.findAsking t (.agg (gn ks n).toArray) es 0).run P w\/es=[]:=by
   cases es with
   | nil=>exact .inr rfl
   | cons e es =>
    left
    obtain ⟨n',h1,h2⟩:=hes e (by simp)
    have h2:e.key=.agg (gn ks n').toArray:=h2
    simp [Instr.findKey,run_underlying hu,Instr.findNow,h2,Instr.sameNow]
  rcases base with hb|rfl
  ·rcases ask es 0 hes with ⟨g1,g2⟩|⟨j,e,g1,g2,g3⟩
   ·exact .inl ⟨hb.trans g1,g2⟩
   ·exact .inr ⟨j,e,hb.trans (by simpa using g1),g2,g3⟩
  ·left
   refine ⟨?_,by simp⟩
   simp [Instr.findKey,run_underlying hu,Instr.findNow]
 stays:=λn hn w=>by
  have all:∀(ks:List IntKind) (l:List Int),((gn ks l).zip (gn ks l)).all (λ(x,y)=>Instr.sameBits 9999 x y)=true:=by
   intro ks
   induction ks with
   | nil=>intro l;cases l<;>rfl
   | cons k ks ih =>
    intro l
    cases l with
    | nil=>rfl
    | cons a l =>
     simp only [gn,List.zip_cons_cons,Er,ih l,Bool.and_true]
     simp [Instr.sameBits]
  have hs:Instr.sameBits 10000 (.agg (gn ks n).toArray) (.agg (gn ks n).toArray)=true:=by
   rw [show (10000:Nat)=9999+1 from rfl,Instr.sameBits]
   simpa using all ks n
  show (Instr.keyThatStays (.agg (gn ks n).toArray) (.agg (gn ks n).toArray)).run P w=_
  unfold Instr.keyThatStays
  rw [if_pos hs]
  rfl
end
universe u
def vD {α:Type u}:List (Nat × α)->Nat->Option α
 | [],_=>none
 | (k,x) :: r,n=>match Nat.beq k n with
  | true=>some x
  | false=>vD r n
def Dr {α:Type u} (p:Nat->α->Prop):List (Nat × α)->Prop
 | []=>True
 | (k,x) :: r=>p k x/\Dr p r
theorem OO {α:Type u} {p:Nat->α->Prop}:∀{l:List (Nat × α)},Dr p l->∀f x,vD l f=some x->p f x
 | [],_,f,x,h=>by simp [vD] at h
 | (k,y) :: r,ha,f,x,h=>by
  simp only [vD] at h
  split at h
  ·rename_i e
   simp at h;subst h
   have:=pe e
   subst this
   exact ha.1
  ·exact OO ha.2 f x h
theorem ahl (n:Nat):(NatCast.natCast n:Int)=(n:Int):=rfl
structure fO:Type 1 where
 α:Type
 args:α->List SV
 pre:α->Prop
 β:Type
 post:α->β->Prop
 res:α->β->SV
structure eM (P:Unit->Program) (f:FuncId) (S:fO):Prop where
 lf:∀a,du (S.args a)
 lr:∀a y,LF (S.res a y)
 run:∀a,S.pre a->∀(H F:bR) (w:World) (vals:List Value),H.kj w->F.kj w->eB H (S.args a) vals ->
  Calls (P ()) f vals.toArray w λe w'=>∃y v H',S.post a y/\e=.returned v/\H.le H'/\H'.kj w'/\F.kj w' /\
   (∀b,H' b≠none->H b≠none\/F b=none)/\tg H' (S.res a y) v/\w'.os=w.os/\w'.tape=w.tape/\w'.output=w.output
section
variable {P:Program} {X:Ctx} {f:Fr} {s s':St} {η:Nat->Value} {H:bR} {a:Act} {w:World}
structure WO (Sp:fO) (a:Sp.α) (b:List Slot) (v:SV):Prop where
 out:∃y,Bg (λ_=>Sp.post a y)/\Yr (Yq b v) (Sp.res a y)
theorem WO.mk' {Sp:fO} {a:Sp.α} {b:List Slot} {v:SV} (y:Sp.β) (h:Yr (Yq b v) (Sp.res a y)) (hp:Sp.post a y):WO Sp a b v:=⟨⟨y,⟨hp⟩,h⟩⟩
structure afR (PP:Unit->Program) (X:Ctx) (lv:Nat) (fn:Func) (Sp:fO) (a:Sp.α):Prop where
 out:match fn.body with
  | some c=>vc PP X lv c (start (Sp.args a) fn.ntmps []) (Bh X fn.results.toList (WO Sp a))
  | none=>False
theorem amv {PP:Unit->Program} {X:Ctx} (C:X.Ok (PP ())) (IL:px X) {lv:Nat} {fid:FuncId} {fn:Func} (F:oa (PP ()) fid fn) (mL:p9 fn=true) {S:fO}
  (dv:∀a,du (S.args a)) (jf:∀a y,LF (S.res a y)) (h0:∀a,S.pre a->afR PP X lv fn S a):eM PP fid S where
 lf:=dv
 lr:=jf
 run:=λα fe H F0 w vals hH hF od=>by
  obtain ⟨c,hb⟩:=u5.1 F.body
  have hc:codeOk c=true:=by unfold p9 at mL;rw [hb] at mL;exact mL
  have h:=(h0 α fe).out
  rw [hb] at h
  let f:Fr:={ F:=F0,H0:=H,w0:=w }
  have D:Den f ⟨S.args α,[]⟩ (λ_=>.nilIface) H { tmps:=vals.toArray,defers:=[] } w:={
   t:=eB.up (bR.le.refl H) od
   sv:=by simp [f,bd]
   d:=rfl
   h0:=bR.le.refl H
   hw:=hH
   fw:=hF
   hf:=λb hb=>.inl hb
   sl:=λl x hx=>by simp at hx
   dj:=λl l' b h=>by simp [bg] at h
   dh:=λl b h=>by simp [bg] at h
   os:=rfl
   tape:=rfl
   out:=rfl }
  refine (Hh C F hb (Cb C IL hc h) f _ H _ w rfl rfl D).mono ?_
  rintro e w' ⟨v,b',η',H',xv,rfl,⟨y,hp,hk⟩,D2,h2⟩
  let G:bR:=λb=>match H' b with
   | some o=>some o
   | none=>match F0 b with
    | some _=>none
    | none=>w'.heap[b]?
  have hle:H'.le G:=λb o hb=>by simp only [G];rw [hb]
  have hG:G.kj w':=λb o hb=>by
   simp only [G] at hb
   split at hb
   ·rename_i o' ho;simp at hb;subst hb;exact D2.hw b _ ho
   ·split at hb
    ·cases hb
    ·exact hb
  have KV:xX D2 G:=⟨hle,λl b hl hb=>by
   obtain ⟨e1,e2⟩:=D2.dh l b hl hb
   have nO:F0 b=none:=e2
   simp only [G,e1,nO]⟩
  have h3:=Hp KV 6 _ _ h2
  have h4:=wg hk.out h3
  refine ⟨y,v,G,hp.out,rfl,D2.h0.trans hle,hG,D2.fw,λb hb=>?_,rF _ _ (jf α y) h4,D2.os,D2.tape,D2.out⟩
  by_cases vC:F0 b=none
  ·exact .inr vC
  ·left
   have me:H' b≠none:=by
    intro e
    apply hb
    simp only [G,e]
    cases hq:F0 b with
    | none=>exact absurd hq vC
    | some _=>rfl
   rcases D2.hf b me with h|h
   ·exact h
   ·exact absurd h vC
theorem bV.of {P:Unit->Program} {fid:FuncId} {Sp:fO} (I:eM P fid Sp) {S args:List SV} {b:List Slot} {k:List Slot->SV->Prop} (a:Sp.α)
  (oF:(dW (args.map (view b)) (Sp.args a)/\((∀y,(Sp.res a y).scalar=true)\/tz args=false))\/dW (zb args) (Sp.args a))
  (fe:Bg λ_=>Sp.pre a) (hk:∀y,Hyp (λ_=>Sp.post a y)->k b (Sp.res a y)):bV S P fid args b k:=by
 refine ⟨λf η H ac w hS hd D=>?_⟩
 have fin:∀(Hc:bR),Hc.kj w->eB Hc (Sp.args a) ac.tmps.toList ->
   (∀H' w' v y,Hc.le H'->H'.kj w'->w.grownBy w' none->(∀b,H' b≠none->Hc b≠none\/w.heap.size<=b)->tg H' (Sp.res a y) v->∃H2,Den f ⟨args,b⟩ η H2 ac w'/\rel η (bg b) H2 (Sp.res a y) v)->Calls (P ()) fid ac.tmps w (CW f k):=by
  intro Hc dN od rO
  have:=I.run a fe.out Hc (jQ w) w _ dN (B6 w) od
  rw [JK] at this
  refine this.mono λe w' ⟨y,v,H',hp,he,g1,g2,g3,g4,g5,g6,g7,g8⟩=>?_
  have qm:=Nw g3 g6 g7 g8
  obtain ⟨H2,D',hr⟩:=rO H' w' v y g1 g2 qm (λb hb=>by
   rcases g4 b hb with h|h
   ·exact .inl h
   ·right
    unfold jQ at h
    simpa using h) g5
  have tC:(⟨#[],[]⟩:Act).defers=f.dS.map HJ:=by rw [hd];rfl
  exact ⟨v,b,η,H2,_,he,hk y ⟨hp⟩,{ D' with t:=by simp [bd],d:=tC },hr⟩
 have ht:bd η (bg b) H args ac.tmps.toList:=D.t
 have plain:dW args (Sp.args a)->Calls (P ()) fid ac.tmps w (CW f k):=λhle=>by
  refine fin H D.hw (lL _ _ (I.lf a) (kP hle ht)) ?_
  intro H' w' v y wD dN qm bA jf
  exact ⟨H',D.share qm wD dN bA,tg.up (bR.le.refl H') jf⟩
 rcases oF with ⟨hle,nr|hl⟩|hle
 ·have Pz:bd η (bg b) (jQ w) (args.map (view b)) ac.tmps.toList:=by
   have:∀(xs:List SV) (vs:List Value),bd η (bg b) H xs vs->bd η (bg b) (jQ w) (xs.map (view b)) vs:=by
    intro xs
    induction xs with
    | nil=>intro vs h;simpa [bd] using h
    | cons c r ih =>
     intro vs h
     simp only [bd,lY] at h ⊢
     obtain ⟨u,us,h1,h2,h3⟩:=h
     exact ⟨u,us,h1,Hp (xX.world D) 4 c u h2,ih us h3⟩
   exact this _ _ ht
  refine fin (jQ w) (B6 w) (lL _ _ (I.lf a) (kP hle Pz)) ?_
  intro H' w' v y _ _ qm _ jf
  exact ⟨H,D.grown qm,SR _ _ (nr y) jf⟩
 ·rw [T0 b _ hl] at hle
  exact plain hle
 ·refine fin H D.hw (lL _ _ (I.lf a) (kP hle (Ej _ _ ht))) ?_
  intro H' w' v y wD dN qm bA jf
  exact ⟨H',D.share qm wD dN bA,tg.up (bR.le.refl H') jf⟩
theorem bV.rel {P:Unit->Program} {fid:FuncId} {Sp:fO} (I:eM P fid Sp) {S args:List SV} {b:List Slot} {k:List Slot->SV->Prop} (a:Sp.α)
 (oF:dW (zb args) (Sp.args a)) (fe:Bg λ_=>Sp.pre a) (hk:∀y,Hyp (λ_=>Sp.post a y)->k b (Sp.res a y)):bV S P fid args b k:=.of I a (.inr oF) fe hk
end
end Go.Vc
