import Derived.Test.YthnhbemmlfaihaaGreatO11
set_option linter.unusedVariables false
set_option linter.unusedSimpArgs false
set_option maxRecDepth 10000
set_option maxHeartbeats 64000000
namespace Go.Vc
open Go
mutual
def eZ (g:Nat->Nat):SV->SV
 | .ptr m off=>.ptr (g m) off
 | .gh m sz i off=>.gh (g m) sz i off
 | .own m=>.own (g m)
 | .eU m sz i j=>.eU (g m) sz i j
 | .agg cs=>.agg (pY g cs)
 | .cM cs=>.cM (pY g cs)
 | .ew cs n=>.ew (pY g cs) n
 | .dV cs off=>.dV (pY g cs) off
 | .fn f x y=>.fn f (pY g x) (pY g y)
 | .mC t x=>.mC t (eZ g x)
 | .sl sz c xs=>.sl sz c xs
 | .gq sz c xs=>.gq sz c xs
 | .mp j c m=>.mp j c m
 | .opt p x=>.opt p x
 | .gn m=>.gn (g m)
 | .gy m=>.gy (g m)
 | .any=>.any
 | .cell=>.cell
 | .bc c=>.bc c
 | .b x=>.b x
 | .nb d p=>.nb d p
 | .ic k x=>.ic k x
 | .i k x=>.i k x
 | .str x=>.str x
 | .v x=>.v x
 | .cQ=>.cQ
def pY (g:Nat->Nat):List SV->List SV
 | []=>[]
 | x :: r=>eZ g x :: pY g r
end
def o5 (g:Nat->Nat):Slot->Slot
 | .fix e cs=>.fix e (pY g cs)
 | .fj e c xs i ys=>.fj e c xs i (pY g ys)
 | .eD ts ps eL body st=>.eD (pY g ts) ps eL body st
 | x=>x
section
variable {P:Program} {X:Ctx} {f:Fr} {s s':St} {η:Nat->Value} {H:bu} {a:Act} {w:World}
mutual
theorem zY {q:Nat->Live} {g:Nat->Nat}:∀(x:SV) (v:Value),rel η q H (eZ g x) v↔rel (λl=>η (g l)) (λl=>q (g l)) H x v
 | .ptr m off,v=>by simp only [eZ,rel]
 | .gh m sz i off,v=>by simp only [eZ,rel]
 | .own m,v=>by simp only [eZ,rel]
 | .eU m sz i j,v=>by simp only [eZ,rel]
 | .agg cs,v=>by
  simp only [eZ,rel]
  exact ⟨λ⟨vs,h1,h2⟩=>⟨vs,h1,(mP cs vs).1 h2⟩,λ⟨vs,h1,h2⟩=>⟨vs,h1,(mP cs vs).2 h2⟩⟩
 | .cM cs,v=>by
  simp only [eZ,rel]
  exact ⟨λ⟨vs,h1,h2⟩=>⟨vs,h1,(mP cs vs).1 h2⟩,λ⟨vs,h1,h2⟩=>⟨vs,h1,(mP cs vs).2 h2⟩⟩
 | .ew cs n,v=>by
  simp only [eZ,rel]
  exact ⟨λ⟨ad,h1,h2⟩=>⟨ad,h1,h2.imp id λ⟨b,h3,h4,vs,h5,h6⟩=>⟨b,h3,h4,vs,(mP cs vs).1 h5,h6⟩⟩,
   λ⟨ad,h1,h2⟩=>⟨ad,h1,h2.imp id λ⟨b,h3,h4,vs,h5,h6⟩=>⟨b,h3,h4,vs,(mP cs vs).2 h5,h6⟩⟩⟩
 | .dV cs off,v=>by
  simp only [eZ,rel]
  exact ⟨λ⟨b,h1,vs,h2,h3⟩=>⟨b,h1,vs,(mP cs vs).1 h2,h3⟩,λ⟨b,h1,vs,h2,h3⟩=>⟨b,h1,vs,(mP cs vs).2 h2,h3⟩⟩
 | .fn f x y,v=>by
  simp only [eZ,rel]
  exact ⟨λ⟨fs,cs,h1,h2,h3⟩=>⟨fs,cs,h1,(mP x fs).1 h2,(mP y cs).1 h3⟩,λ⟨fs,cs,h1,h2,h3⟩=>⟨fs,cs,h1,(mP x fs).2 h2,(mP y cs).2 h3⟩⟩
 | .mC t x,v=>by
  simp only [eZ,rel]
  exact ⟨λ⟨y,h1,h2⟩=>⟨y,h1,(zY x y).1 h2⟩,λ⟨y,h1,h2⟩=>⟨y,h1,(zY x y).2 h2⟩⟩
 | .sl sz c xs,v=>by
  rw [eZ]
  constructor<;>intro h<;>refine pL _ _ ?_ h<;>(simp only [rel,LF] at h ⊢;exact h.2)
 | .gq sz c xs,v=>by
  rw [eZ]
  constructor<;>intro h<;>refine pL _ _ ?_ h<;>(simp only [rel,LF] at h ⊢;exact h.2)
 | .mp j c m,v=>by
  rw [eZ]
  constructor<;>intro h<;>refine pL _ _ ?_ h<;>(simp only [rel,LF] at h ⊢;exact h.2)
 | .opt p x,v=>by
  rw [eZ]
  constructor<;>intro h<;>refine pL _ _ ?_ h<;>(simp only [rel,LF] at h ⊢;exact h.2)
 | .gn m,v=>by simp only [eZ,rel]
 | .gy m,v=>by simp only [eZ,rel]
 | .any,v=>by simp only [eZ,rel]
 | .cell,v=>by simp only [eZ,rel]
 | .bc c,v=>by simp only [eZ,rel]
 | .b x,v=>by simp only [eZ,rel]
 | .nb d p,v=>by simp only [eZ,rel]
 | .ic k x,v=>by simp only [eZ,rel]
 | .i k x,v=>by simp only [eZ,rel]
 | .str x,v=>by simp only [eZ,rel]
 | .v x,v=>by simp only [eZ,rel]
 | .cQ,v=>by simp only [eZ,rel]
theorem mP {q:Nat->Live} {g:Nat->Nat}:∀(x:List SV) (v:List Value),aP η q H (pY g x) v↔aP (λl=>η (g l)) (λl=>q (g l)) H x v
 | [],v=>by simp only [pY,aP]
 | x :: r,v=>by
  simp only [pY,aP]
  exact ⟨λ⟨u,us,h1,h2,h3⟩=>⟨u,us,h1,(zY x u).1 h2,(mP r us).1 h3⟩,λ⟨u,us,h1,h2,h3⟩=>⟨u,us,h1,(zY x u).2 h2,(mP r us).2 h3⟩⟩
end
theorem tT (g:Nat->Nat) (x:Slot):(o5 g x).live=x.live:=by cases x<;>rfl
theorem Wx {q:Nat->Live} {g:Nat->Nat} {l:Nat} {x:Slot}:jQ η q H w (g l) (o5 g x)↔jQ (λl=>η (g l)) (λl=>q (g l)) H w l x:=by
 cases x with
 | un=>exact xZ
 | dead=>exact xZ
 | fix e cs =>
  simp only [o5,jQ]
  exact ⟨λ⟨bl,vs,h1,h2,h3⟩=>⟨bl,vs,h1,h2,(mP cs _).1 h3⟩,λ⟨bl,vs,h1,h2,h3⟩=>⟨bl,vs,h1,h2,(mP cs _).2 h3⟩⟩
 | dyn e sz c xs=>exact xZ
 | fj e c xs i ys =>
  simp only [o5,jQ]
  exact ⟨λ⟨vals,h1,h2,⟨u,h3,h4⟩,h5⟩=>⟨vals,h1,h2,⟨u,h3,(mP ys _).1 h4⟩,h5⟩,λ⟨vals,h1,h2,⟨u,h3,h4⟩,h5⟩=>⟨vals,h1,h2,⟨u,h3,(mP ys _).2 h4⟩,h5⟩⟩
 | map k c m=>exact xZ
 | iter k c m seen cur=>exact xZ
 | eD ts ps eL body st =>
  simp only [o5,jQ]
  exact ⟨λ⟨bl,fn,tmps,d,h1,h2,h3⟩=>⟨bl,fn,tmps,d,h1,h2,(mP ts _).1 h3⟩,λ⟨bl,fn,tmps,d,h1,h2,h3⟩=>⟨bl,fn,tmps,d,h1,h2,(mP ts _).2 h3⟩⟩
theorem jQ.MK {η η':Nat->Value} {q q':Nat->Live} {H:bu} {w:World} {l:Nat} {x:Slot} (h:jQ η q H w l x) (ht:iI η η' q q') (he:x.live=.live->η' l=η l):jQ η' q' H w l x:=by
 cases hx:x.live with
 | live=>exact h.kept ht (bu.le.refl _) (he hx) λ_ _=>rfl
 | _=>cases x<;>first|trivial|cases hx
structure o6:Type 1 where
 α:Type
 args:α->List SV
 io:α->List Slot
 pre:α->Prop
 β:Type
 post:α->β->Prop
 mv:List Nat
 res:α->β->SV
 l7:α->β->List Slot
def fS (j:Nat):List Nat->Bool
 | []=>false
 | x :: r=>Nat.beq j x||fS j r
theorem x1 {j:Nat}:∀{l:List Nat},fS j l=true↔j∈l
 | []=>by simp [fS]
 | x :: r=>by simp [fS,BO,x1]
def oB (j:Nat):Slot->SV
 | .fix _ _=>.ptr j 0
 | .dyn ..=>.own j
 | .fj ..=>.own j
 | .map ..=>.gn j
 | .iter ..=>.ptr j 0
 | .eD ..=>.gy j
 | _=>.any
def qB (v:Value):Slot->Value
 | .eD ..=>match v with
  | .pointer (some a)=>.func (.yield a.block) #[] #[]
  | _=>.nilIface
 | _=>v
def rf (mv:List Nat):Nat->List Slot->List SV
 | _,[]=>[]
 | j,x :: r=>(match fS j mv with|true=>.any|false=>oB j x) :: rf mv (j+1) r
def yB (η:Nat->Value):Nat->List Slot->List Value
 | _,[]=>[]
 | j,x :: r=>qB (η j) x :: yB η (j+1) r
theorem alo {q:Nat->Live} {l:Nat} {x:Slot} (h:jQ η q H w l x) (hq:q l=x.live):rel η q H (oB l x) (qB (η l) x):=by
 cases x with
 | un=>simp only [oB,rel]
 | dead=>simp only [oB,rel]
 | fix e cs =>
  obtain ⟨bl,vs,h1,h2,h3⟩:=h
  simp only [oB,rel,hq,Slot.live,qB]
  exact ⟨bl,h1,h1⟩
 | dyn e sz c xs =>
  obtain ⟨vals,h1,_⟩:=h
  obtain ⟨ad,cp,h2,_⟩:=h1.slice
  simp only [oB,rel,hq,Slot.live,qB]
  exact ⟨trivial,_,_,_,h2⟩
 | fj e c xs i ys =>
  obtain ⟨vals,h1,_⟩:=h
  obtain ⟨ad,cp,h2,_⟩:=h1.slice
  simp only [oB,rel,hq,Slot.live,qB]
  exact ⟨trivial,_,_,_,h2⟩
 | map k c m =>
  obtain ⟨r,es,clock,h1,_⟩:=h
  simp only [oB,rel,hq,Slot.live,qB]
  exact ⟨trivial,_,h1⟩
 | iter k c m seen cur =>
  obtain ⟨bl,h1,_⟩:=h
  simp only [oB,rel,hq,Slot.live,qB]
  exact ⟨bl,h1,h1⟩
 | eD ts ps eL body st =>
  obtain ⟨bl,fn,tmps,d,h1,_⟩:=h
  simp only [oB,rel,hq,Slot.live,qB,h1]
  exact ⟨bl,rfl,rfl⟩
theorem alp {η':Nat->Value} {q q':Nat->Live} {H':bu} {w:World} {l:Nat} {x:Slot} (hx:x.live=.live) (h:jQ η q H w l x) (hq:q' l=.live) (hr:rel η' q' H' (oB l x) (qB (η l) x)):η' l=η l:=by
 cases x with
 | un=>cases hx
 | dead=>cases hx
 | fix e cs =>
  simp only [oB,rel,hq,qB] at hr
  obtain ⟨bl,h1,h2⟩:=hr
  exact h1.trans h2.symm
 | dyn e sz c xs =>
  simp only [oB,rel,hq,qB] at hr
  exact hr.1.symm
 | fj e c xs i ys =>
  simp only [oB,rel,hq,qB] at hr
  exact hr.1.symm
 | map k c m =>
  simp only [oB,rel,hq,qB] at hr
  exact hr.1.symm
 | iter k c m seen cur =>
  simp only [oB,rel,hq,qB] at hr
  obtain ⟨bl,h1,h2⟩:=hr
  exact h1.trans h2.symm
 | eD ts ps eL body st =>
  obtain ⟨bl,fn,tmps,d,h1,_⟩:=h
  simp only [oB,rel,hq,qB,h1] at hr
  obtain ⟨kN,h2,h3⟩:=hr
  simp at h3
  subst h3
  rw [h1,h2]
theorem Zg {q:Nat->Live} (mv:List Nat):∀(b:List Slot) (j:Nat),(∀(l:Nat) (x:Slot),b[l]?=some x->jQ η q H w (j+l) x/\q (j+l)=x.live)->aP η q H (rf mv j b) (yB η j b)
 | [],_,_=>by simp [rf,yB,aP]
 | x :: r,j,h=>by
  simp only [rf,yB,aP]
  refine ⟨_,_,rfl,?_,Zg mv r (j+1) λl y hy=>?_⟩
  ·have:=h 0 x rfl
   simp only [qV] at this
   split
   ·simp only [rel]
   ·exact alo this.1 this.2
  ·have:=h (l+1) y (by simpa using hy)
   rwa [show j+1+l=j+(l+1) by omega]
theorem Yo (η:Nat->Value) (mv:List Nat):∀(b:List Slot) (j l:Nat) (x:Slot),b[l]?=some x->fS (j+l) mv=false->(rf mv j b)[l]?=some (oB (j+l) x)/\(yB η j b)[l]?=some (qB (η (j+l)) x)
 | [],_,l,x,h,_=>by simp at h
 | y :: r,j,0,x,h,he=>by
  simp at h
  subst h
  simp only [qV] at he
  simp [rf,yB,he]
 | y :: r,j,l+1,x,h,he=>by
  have:=Yo η mv r (j+1) l x (by simpa using h) (by rwa [show j+1+l=j+(l+1) by omega])
  rw [show j+1+l=j+(l+1) by omega] at this
  simpa [rf,yB] using this
def uF:List Nat->St->St
 | [],s=>s
 | m :: r,s=>match s.b[m]? with
  | some x=>match x.live with
   | .live=>uF r (s.freeze m)
   | _=>uF r s
  | none=>uF r s
theorem Den.uF:∀(r:List Nat) {s:St} {H:bu},Den f s η H a w->∃H',Den f (uF r s) η H' a w
 | [],s,H,D=>⟨H,D⟩
 | m :: r,s,H,D=>by
  unfold Vc.uF
  split
  ·rename_i x hx
   split
   ·rename_i hl
    obtain ⟨H1,D1⟩:=D.freeze hx hl
    exact Den.uF r D1
   ·exact Den.uF r D
  ·exact Den.uF r D
def IoK (Sp:o6) (a:Sp.α) (b:List Slot) (v:SV):Prop :=
 ∃(y:Sp.β) (fr:List Nat) (own:List (Place × Nat)),qG (fit (rf Sp.mv 0 (Sp.io a)) (Sp.io a).length own (uF fr ⟨[v],b⟩)).t [Sp.res a y] /\
  ny (fit (rf Sp.mv 0 (Sp.io a)) (Sp.io a).length own (uF fr ⟨[v],b⟩)).b (Sp.l7 a y)/\yD (λ_=>Sp.post a y)
structure nh (P:Unit->Program) (fid:FuncId) (Sp:o6):Prop where
 len:∀a y,(Sp.l7 a y).length=(Sp.io a).length
 old:∀a (j:Nat) (z:Slot),(Sp.io a)[j]?=some z->fS j Sp.mv=false->z.live=.live
 nu:∀a y (j:Nat),(Sp.l7 a y)[j]?≠some .un
 mv:Sp.mv.Nodup/\∀a,∀j∈Sp.mv,j < (Sp.io a).length
 run:∀a,Sp.pre a->fh (rf Sp.mv 0 (Sp.io a)) P fid (Sp.args a) (Sp.io a) (IoK Sp a)
def wq (L:List Nat) (d j:Nat):Nat:=match L[j]? with
 | some l=>l
 | none=>d
def uw (g:Nat->Nat) (sk:Nat->Bool):Nat->List Slot->List Slot->List Slot
 | _,[],b=>b
 | j,x :: r,b=>uw g sk (j+1) r (match sk j with|true=>b|false=>b.set (g j) (o5 g x))
def Ag (g:Nat->Nat):List Nat->List Slot->List Slot
 | [],b=>b
 | j :: r,b=>Ag g r (b.set (g j) .dead)
def Fj (j:Nat):List Nat->Nat
 | []=>0
 | x :: r=>match Nat.beq j x with
  | true=>0
  | false=>Fj j r+1
def CR:List Slot->List Nat->Nat->List Nat->Bool
 | [],[],_,_=>true
 | x :: r,l :: ls,n,seen=>(match Nat.blt l n with
  | true=>!fS l seen
  | false=>match x with|.dead=>true|_=>false)&&CR r ls n (l :: seen)
 | _,_,_,_=>false
def CS (n:Nat) (L mv:List Nat) (j:Nat):Nat:=match fS j mv with
 | true=>n+Fj j mv
 | false=>wq L (n+mv.length) j
def Cg (g:Nat->Nat) (bs:List Slot):List Nat->List Slot
 | []=>[]
 | j :: r=>(match bs[j]? with|some x=>o5 g x|none=>.dead) :: Cg g bs r
def QD (b:List Slot) (L mv:List Nat) (bs:List Slot):List Slot :=
 uw (CS b.length L mv) (λj=>fS j mv) 0 bs (Ag (wq L b.length) mv b)++Cg (CS b.length L mv) bs mv
theorem Hs {j:Nat}:∀{l:List Nat},fS j l=true->l[Fj j l]?=some j
 | [],h=>by simp [fS] at h
 | x :: r,h=>by
  simp only [fS,oq] at h
  unfold Fj
  split
  ·rename_i e
   rw [nM e];rfl
  ·rename_i e
   rw [e] at h
   simp only [oX,false_or] at h
   simpa using Hs h
theorem aki {l:List Nat} (hn:l.Nodup) {i j:Nat} (h:l[i]?=some j):Fj j l=i:=by
 have hm:fS j l=true:=x1.2 (cf h)
 have h1:=Hs hm
 have l1:=(a7.1 h1)
 have l2:=(a7.1 h)
 obtain ⟨a1,a2⟩:=l1
 obtain ⟨b1,b2⟩:=l2
 exact (List.getElem_inj hn).1 (a2.trans b2.symm)
theorem ON (g:Nat->Nat) (sk:Nat->Bool):∀(bs:List Slot) (j:Nat) (b:List Slot),(uw g sk j bs b).length=b.length
 | [],_,_=>rfl
 | x :: r,j,b=>by
  rw [uw,ON g sk r]
  split<;>simp
theorem VG (g:Nat->Nat):∀(mv:List Nat) (b:List Slot),(Ag g mv b).length=b.length
 | [],_=>rfl
 | j :: r,b=>by rw [Ag,VG g r];simp
theorem VH (g:Nat->Nat) (bs:List Slot):∀mv:List Nat,(Cg g bs mv).length=mv.length
 | []=>rfl
 | j :: r=>by simp [Cg,VH g bs r]
theorem Wy (g:Nat->Nat) (bs:List Slot):∀(mv:List Nat) (i j:Nat),mv[i]?=some j->(Cg g bs mv)[i]?=some (match bs[j]? with|some x=>o5 g x|none=>.dead)
 | [],i,j,h=>by simp at h
 | k :: r,0,j,h=>by simp at h;subst h;rfl
 | k :: r,i+1,j,h=>by simpa [Cg] using Wy g bs r i j (by simpa using h)
theorem O5 (g:Nat->Nat):∀(mv:List Nat) (b:List Slot) (l:Nat),l < b.length->(Ag g mv b)[l]?=if mv.any (λj=>Nat.beq (g j) l) then some .dead else b[l]?
 | [],b,l,_=>by simp [Ag]
 | j :: r,b,l,hl=>by
  rw [Ag,O5 g r _ l (by simpa using hl)]
  by_cases h1:r.any (λj=>Nat.beq (g j) l)=true
  ·simp [h1]
  ·simp only [h1,List.any_cons]
   by_cases h2:g j=l
   ·subst h2;simp [hl]
   ·have:Nat.beq (g j) l=false:=by rw [<-Bool.not_eq_true,BO];exact h2
    simp [this,gK h2]
theorem PS (g:Nat->Nat) (sk:Nat->Bool):∀(bs:List Slot) (j:Nat) (b:List Slot) (l:Nat),l < b.length ->
  (∀i i',i < bs.length->i' < bs.length->sk (j+i)=false->sk (j+i')=false->g (j+i)=l->g (j+i')=l->i=i') ->
  (uw g sk j bs b)[l]?=match (List.range bs.length).find? (λi=>!sk (j+i)&&Nat.beq (g (j+i)) l) with
   | some i=>(bs[i]?).map (o5 g)
   | none=>b[l]?
 | [],j,b,l,_,_=>by simp [uw]
 | x :: r,j,b,l,hl,hd=>by
  have ja:l < (match sk j with|true=>b|false=>b.set (g j) (o5 g x)).length:=by split<;>simpa using hl
  have e:∀i,j+1+i=j+(i+1):=λi=>by omega
  rw [uw,PS g sk r (j+1) _ l ja (λi i' h1 h2 h3 h4 h5 h6=>by
   rw [e] at h3 h5
   rw [e] at h4 h6
   have:=hd (i+1) (i'+1) (by simpa using h1) (by simpa using h2) h3 h4 h5 h6
   omega)]
  rw [ql,List.range_succ_eq_map,List.find?_cons,List.find?_map]
  simp only [qV,e]
  by_cases h0:(!sk j&&Nat.beq (g j) l)=true
  ·simp only [h0]
   simp only [cG,oY,BO] at h0
   have yv:(List.range r.length).find? (λi=>!sk (j+(i+1))&&Nat.beq (g (j+(i+1))) l)=none:=by
    rw [Pq]
    intro i hi hc
    simp only [cG,oY,BO] at hc
    have:=hd 0 (i+1) (by simp) (by simpa using hi) (by simpa using h0.1) hc.1 (by simpa using h0.2) hc.2
    omega
   rw [yv]
   simp only [h0.1]
   rw [<-h0.2,pC (by rw [h0.2];exact hl)]
   rfl
  ·have rA:(!sk j&&Nat.beq (g j) l)=false:=by cases hq:(!sk j&&Nat.beq (g j) l) with|false=>rfl|true=>exact absurd hq h0
   simp only [rA,KR]
   have hb:(match sk j with|true=>b|false=>b.set (g j) (o5 g x))[l]?=b[l]?:=by
    cases hs:sk j with
    | true=>rfl
    | false =>
     rw [hs] at rA
     simp only [Bool.not_false,Ha] at rA
     exact gK (λe=>by rw [e] at rA;simp at rA)
   rw [hb]
   cases (List.range r.length).find? (λi=>!sk (j+(i+1))&&Nat.beq (g (j+(i+1))) l) with
   | none=>rfl
   | some i=>simp
theorem Qh:∀xs:List SV,qG xs xs
 | []=>trivial
 | x :: r=>by
  simp only [qG]
  split
  ·exact Qh r
  ·exact ⟨.refl _,Qh r⟩
theorem Xl:∀{io:List Slot} {L:List Nat} {n:Nat} {seen:List Nat},CR io L n seen=true->L.length=io.length /\
  (∀(i:Nat) (x:Slot) (l:Nat),io[i]?=some x->L[i]?=some l->l < n\/x=.dead)/\(∀(i l:Nat),L[i]?=some l->l < n->l∉seen) /\
  (∀(i i' l:Nat),L[i]?=some l->L[i']?=some l->l < n->i=i')
 | [],[],n,seen,_=>by simp
 | [],_ :: _,_,_,h=>by simp [CR] at h
 | _ :: _,[],_,_,h=>by simp [CR] at h
 | x :: r,l :: ls,n,seen,h=>by
  simp only [CR,cG] at h
  obtain ⟨h1,h2⟩:=h
  obtain ⟨g1,g2,g3,g4⟩:=Xl h2
  have AY:(l < n->l∉seen)/\(l < n\/x=.dead):=by
   split at h1
   ·rename_i e
    have:l < n:=D8 e
    simp only [oY,<-Bool.not_eq_true,x1] at h1
    exact ⟨λ_=>h1,.inl this⟩
   ·rename_i e
    have e:¬l < n:=λh=>by
     have:=vu h
     unfold Nat.blt at e
     rw [this] at e
     cases e
    refine ⟨λh=>absurd h e,.inr ?_⟩
    split at h1
    ·rfl
    ·cases h1
  refine ⟨by simp [g1],?_,?_,?_⟩
  ·intro i y l' hy hl
   cases i with
   | zero=>simp at hy hl;subst hy hl;exact AY.2
   | succ i=>exact g2 i y l' (by simpa using hy) (by simpa using hl)
  ·intro i l' hl hn
   cases i with
   | zero=>simp at hl;subst hl;exact AY.1 hn
   | succ i=>exact λhm=>g3 i l' (by simpa using hl) hn (pE _ hm)
  ·intro i i' l' hi j4 hn
   cases i with
   | zero =>
    simp at hi;subst hi
    cases i' with
    | zero=>rfl
    | succ i'=>exact absurd (Pr) (g3 i' l (by simpa using j4) hn)
   | succ i =>
    cases i' with
    | zero=>simp at j4;subst j4;exact absurd (Pr) (g3 i l (by simpa using hi) hn)
    | succ i'=>rw [g4 i i' l' (by simpa using hi) (by simpa using j4) hn]
theorem Zh (mv:List Nat):∀(b:List Slot) (j m:Nat),j+b.length<=m->mB (Nat.ble m) (rf mv j b)=false
 | [],_,_,_=>rfl
 | x :: r,j,m,h=>by
  simp only [rf,mB,Zh mv r (j+1) m (by simp at h;omega),Bool.or_false]
  have hj:Nat.ble m j=false:=by
   cases e:Nat.ble m j with
   | false=>rfl
   | true=>have:=D8 e;simp at h;omega
  split
  ·rfl
  ·cases x<;>simp [oB,jI,hj]
theorem Zi {L:List Nat} {d j l:Nat} (h:L[j]?=some l):wq L d j=l:=by unfold wq;rw [h]
theorem Zj {L:List Nat} {d j:Nat} (h:L[j]?=none):wq L d j=d:=by unfold wq;rw [h]
theorem fh.io {P:Unit->Program} {fid:FuncId} {Sp:o6} (I:nh P fid Sp) {S args:List SV} {b:List Slot} {k:List Slot->SV->Prop} (a:Sp.α) (L:List Nat)
  (iY:CR (Sp.io a) L b.length []=true) (mY:dA args (pY (wq L b.length) (Sp.args a))) (TU:ny b (uw (wq L b.length) (λ_=>false) 0 (Sp.io a) b))
  (ej:yD λ_=>Sp.pre a) (hk:∀y,Hyp (λ_=>Sp.post a y)->k (QD b L Sp.mv (Sp.l7 a y)) (eZ (CS b.length L Sp.mv) (Sp.res a y))):fh S P fid args b k:=by
 refine ⟨λf η H ac w hS hd D=>?_⟩
 obtain ⟨hlen,aO,_,MI⟩:=Xl iY
 let io:=Sp.io a
 let n:=b.length
 let σ:=wq L n
 let b1:=uw σ (λ_=>false) 0 io b
 have ig:b1.length=n:=ON _ _ _ _ _
 have D1:Den f ⟨args,b1⟩ η H ac w:=D.weaken ⟨Qh _,TU⟩
 have σL:∀i,i < io.length->∃l,L[i]?=some l/\σ i=l:=λi hi=>⟨_,ea (by rw [hlen];exact hi),Zi (ea (by rw [hlen];exact hi))⟩
 have aoT:∀i,io.length<=i->σ i=n:=λi hi=>Zj (pD (by rw [hlen];exact hi))
 have Fk:∀i i' l,i < io.length->i' < io.length->σ i=l->σ i'=l->l < n->i=i':=by
  intro i i' l h1 h2 h3 h4 h5
  obtain ⟨l1,a1,a2⟩:=σL i h1
  obtain ⟨l2,c1,c2⟩:=σL i' h2
  exact MI i i' l (by rw [a1,<-a2,h3]) (by rw [c1,<-c2,h4]) h5
 have FX:∀i x,io[i]?=some x->σ i < n\/x=.dead:=by
  intro i x hx
  obtain ⟨l,a1,a2⟩:=σL i (a7.1 hx).1
  rw [a2];exact aO i x l hx a1
 have acm:∀l,l < n->b1[l]?=match (List.range io.length).find? (λi=>Nat.beq (σ i) l) with
   | some i=>(io[i]?).map (o5 σ)
   | none=>b[l]?:=by
  intro l hl
  have:=PS σ (λ_=>false) io 0 b l hl (λi i' h1 h2 _ _ h3 h4=>by
   simp only [oZ] at h3 h4
   exact Fk i i' l h1 h2 h3 h4 hl)
  simpa using this
 have find:∀i l,i < io.length->σ i=l->l < n->(List.range io.length).find? (λi=>Nat.beq (σ i) l)=some i:=by
  intro i l h1 h2 h3
  cases hf:(List.range io.length).find? (λi=>Nat.beq (σ i) l) with
  | none =>
   rw [Pq] at hf
   exact absurd (by simpa using h2) (hf i (by simpa using h1))
  | some i' =>
   have g1:=KV hf
   have g2:=KJ hf
   simp at g1 g2
   rw [Fk i i' l h1 g2 h2 g1 h3]
 have Jm:∀i x,io[i]?=some x->σ i < n->b1[σ i]?=some (o5 σ x):=by
  intro i x hx hl
  rw [acm _ hl,find i _ (a7.1 hx).1 rfl hl]
  simp only [hx]
  rfl
 have q1:∀i,Live.un=aS b1 (σ i)\/aS io i=aS b1 (σ i)\/aS io i=.dead:=by
  intro i
  cases hx:io[i]? with
  | none =>
   left
   rw [aoT i (by simpa using hx)]
   simp [aS,ig]
  | some x =>
   rcases FX i x hx with h|h
   ·right;left
    rw [cx (Jm i x hx h),cx hx,tT]
   ·right;right
    rw [cx hx,h];rfl
 have HS:∀i,aS io i=.live->σ i < n/\i < io.length:=by
  intro i h
  obtain ⟨x,hx,hl⟩:=td h
  rcases FX i x hx with h|h
  ·exact ⟨h,(a7.1 hx).1⟩
  ·rw [h] at hl;cases hl
 let η':Nat->Value:=λi=>η (σ i)
 have T1:iI η' η' (λi=>aS b1 (σ i)) (aS io):=by
  intro i
  rcases q1 i with h|h|h
  ·show match aS b1 (σ i) with|.un=>True|.dead=>_|.live=>_
   rw [<-h];trivial
  ·show match aS b1 (σ i) with|.un=>True|.dead=>_|.live=>_
   rw [<-h]
   cases hq:aS io i<;>simp
  ·show match aS b1 (σ i) with|.un=>True|.dead=>_|.live=>_
   cases hq:aS b1 (σ i)<;>simp [h]
 have Sl:∀(i:Nat) (x:Slot),io[i]?=some x->jQ η' (aS io) H w i x:=by
  intro i x hx
  rcases FX i x hx with h|h
  ·exact (Wx.1 (D1.sl _ _ (Jm i x hx h))).MK T1 λ_=>rfl
  ·rw [h];trivial
 let F':bu:=λbl=>@ite _ (∃l,aS b1 l=.live/\(∀i,i < io.length->σ i≠l)/\cy (η l)=some bl) (Classical.propDecidable _) (w.heap[bl]?) (f.F bl)
 have RC:∀bl o,f.F bl=some o->F' bl=some o:=by
  intro bl o h
  simp only [F']
  split
  ·rename_i hc
   obtain ⟨l,h1,_,h2⟩:=hc
   rw [(D1.dh l bl h1 h2).2] at h
   cases h
  ·exact h
 have ank:∀l bl,aS b1 l=.live->(∀i,i < io.length->σ i≠l)->cy (η l)=some bl->F' bl=w.heap[bl]?:=by
  intro l bl h1 h2 h3
  simp only [F']
  rw [if_pos ⟨l,h1,h2,h3⟩]
 have aoU:∀i bl,aS io i=.live->cy (η' i)=some bl->F' bl=f.F bl:=by
  intro i bl h1 h2
  simp only [F']
  rw [if_neg]
  rintro ⟨l,g1,g2,g3⟩
  obtain ⟨h3,h4⟩:=HS i h1
  have hq:aS b1 (σ i)=.live:=by
   rcases q1 i with h|h|h
   ·obtain ⟨x,hx,hl⟩:=td h1
    rw [cx (Jm i x hx h3),tT,hl]
   ·rw [<-h];exact h1
   ·rw [h1] at h;cases h
  exact g2 i h4 (D1.dj (σ i) l bl hq g1 h2 g3)
 have sA:∀i,aS io i=.live->aS b1 (σ i)=.live:=by
  intro i h1
  obtain ⟨h3,h4⟩:=HS i h1
  obtain ⟨x,hx,hl⟩:=td h1
  rw [cx (Jm i x hx h3),tT,hl]
 let f':Fr:={ F:=F',H0:=H,w0:=w,sS:=rf Sp.mv 0 io,sV:=yB η' 0 io,dS:=[] }
 have alq:aP η' (aS io) H (Sp.args a) ac.tmps.toList:=gC T1 (bu.le.refl H) _ _ ((mP _ _).1 (jH mY D1.t))
 have D':Den f' ⟨Sp.args a,io⟩ η' H ⟨ac.tmps,[]⟩ w:={
  t:=alq
  sv:=Zg Sp.mv io 0 λl x hx=>by
   rw [oZ]
   exact ⟨Sl l x hx,cx hx⟩
  d:=rfl
  h0:=bu.le.refl H
  hw:=D1.hw
  fw:=λbl o h=>by
   simp only [f',F'] at h
   split at h
   ·exact h
   ·exact D1.fw bl o h
  hf:=λbl h=>.inl h
  sl:=λl x hx=>Sl l x hx
  dj:=λl l' bl h1 h2 h3 h4=>by
   have:=D1.dj (σ l) (σ l') bl (sA l h1) (sA l' h2) h3 h4
   exact Fk l l' _ (HS l h1).2 (HS l' h2).2 rfl this.symm (HS l h1).1
  dh:=λl bl h1 h2=>⟨(D1.dh (σ l) bl (sA l h1) h2).1,(aoU l bl h1 h2).trans (D1.dh (σ l) bl (sA l h1) h2).2⟩
  os:=rfl
  tape:=rfl
  out:=rfl }
 refine ((I.run a ej.out).out f' η' H ⟨ac.tmps,[]⟩ w rfl rfl D').mono ?_
 rintro e w' ⟨v,b2,η2,H2,xv,rfl,⟨y,fr,own,k1,k2,k3⟩,D2,r2⟩
 have D2v:Den f' ⟨[xv],b2⟩ η2 H2 ⟨#[v],[]⟩ w':={ D2 with t:=by simp only [aP];exact ⟨v,[],rfl,r2,rfl⟩ }
 obtain ⟨H3,D3⟩:=Den.uF fr D2v
 obtain ⟨η3,D4⟩:=D3.uE (S:=rf Sp.mv 0 io) rfl own
 have Ir:mB (Nat.ble io.length) f'.sS=false:=Zh Sp.mv io 0 io.length (by omega)
 have D5:Den f' ⟨[Sp.res a y],Sp.l7 a y⟩ η3 H3 ⟨#[v],[]⟩ w':=(D4.cut io.length Ir).weaken ⟨k1,k2⟩
 let bs:=Sp.l7 a y
 have iP:bs.length=io.length:=I.len a y
 let g:=CS n L Sp.mv
 have Iu:∀(i:Nat) (x:Slot),bs[i]?=some x->fS i Sp.mv=false->∃z,io[i]?=some z/\z.live=.live:=λi x hx hm =>
  ⟨_,ea (by rw [<-iP];exact (a7.1 hx).1),I.old a i _ (ea (by rw [<-iP];exact (a7.1 hx).1)) hm⟩
 have gN:∀i,fS i Sp.mv=true->g i=n+Fj i Sp.mv:=λi h=>by simp only [g,CS,h]
 have gO:∀i,fS i Sp.mv=false->i < io.length->g i=σ i:=λi h hi=>by
  obtain ⟨l,a1,a2⟩:=σL i hi
  simp only [g,CS,h]
  rw [a2];exact Zi a1
 have gX:∀i,fS i Sp.mv=false->io.length<=i->g i=n+Sp.mv.length:=λi h hi=>by
  simp only [g,CS,h]
  exact Zj (pD (by rw [hlen];exact hi))
 have Mp:∀i,fS i Sp.mv=true->i < io.length:=λi h=>I.mv.2 a i (x1.1 h)
 let bk:=Ag σ Sp.mv b
 have NI:bk.length=n:=VG _ _ _
 let bn:=QD b L Sp.mv bs
 have TV:bn=uw g (λj=>fS j Sp.mv) 0 bs bk++Cg g bs Sp.mv:=rfl
 have MR:(uw g (λj=>fS j Sp.mv) 0 bs bk).length=n:=by rw [ON,NI]
 have acn:∀l,l < n->bn[l]?=match (List.range bs.length).find? (λi=>!fS i Sp.mv&&Nat.beq (g i) l) with
   | some i=>(bs[i]?).map (o5 g)
   | none=>bk[l]?:=by
  intro l hl
  rw [TV,ka (by rw [MR];exact hl)]
  have:=PS g (λj=>fS j Sp.mv) bs 0 bk l (by rw [NI];exact hl) (λi i' h1 h2 h3 h4 h5 h6=>by
   simp only [oZ] at h3 h4 h5 h6
   rw [iP] at h1 h2
   rw [gO i h3 h1] at h5
   rw [gO i' h4 h2] at h6
   exact Fk i i' l h1 h2 h5 h6 hl)
  simpa using this
 have Iv:∀i,i < io.length->σ i < n->fS i Sp.mv=false->bn[σ i]?=(bs[i]?).map (o5 g):=by
  intro i hi hl hm
  rw [acn _ hl]
  cases hf:(List.range bs.length).find? (λj=>!fS j Sp.mv&&Nat.beq (g j) (σ i)) with
  | none =>
   rw [Pq] at hf
   have:=hf i (by rw [mQ,iP];exact hi)
   rw [hm,gO i hm hi] at this
   simp at this
  | some i' =>
   have g1:=KV hf
   have g2:=KJ hf
   simp only [cG,oY,BO,mQ,iP] at g1 g2
   have e:=g1.2
   rw [gO i' g1.1 g2] at e
   rw [Fk i' i (σ i) g2 hi e rfl hl]
 have abe:∀l,l < n->(∀i,i < io.length->fS i Sp.mv=false->σ i≠l)->bn[l]?=bk[l]?:=by
  intro l hl dx
  rw [acn _ hl]
  cases hf:(List.range bs.length).find? (λj=>!fS j Sp.mv&&Nat.beq (g j) l) with
  | none=>rfl
  | some i' =>
   have g1:=KV hf
   have g2:=KJ hf
   simp only [cG,oY,BO,mQ,iP] at g1 g2
   have e:=g1.2
   rw [gO i' g1.1 g2] at e
   exact absurd e (dx i' g2 g1.1)
 have Sm:∀i,σ i < n->fS i Sp.mv=true->bn[σ i]?=some .dead:=by
  intro i hl hm
  rw [abe _ hl,O5 σ Sp.mv b _ hl,if_pos]
  ·rw [Ee];exact ⟨i,x1.1 hm,by simp⟩
  ·intro i' h1 h2 h3
   rw [Fk i' i _ h1 (Mp i hm) h3 rfl hl,hm] at h2
   cases h2
 have Sn:∀l,l < n->(∀i,i < io.length->σ i≠l)->bn[l]?=b1[l]?:=by
  intro l hl dx
  rw [abe l hl λi h1 _=>dx i h1,O5 σ Sp.mv b _ hl,if_neg,acm l hl]
  ·cases hf:(List.range io.length).find? (λi=>Nat.beq (σ i) l) with
   | none=>rfl
   | some i' =>
    have g1:=KV hf
    have g2:=KJ hf
    simp at g1 g2
    exact absurd g1 (dx i' g2)
  ·intro h
   rw [Ee] at h
   obtain ⟨i,h1,h2⟩:=h
   exact dx i (Mp i (x1.2 h1)) (nM h2)
 have Q1:∀i j,Sp.mv[i]?=some j->bn[n+i]?=(bs[j]?).map (o5 g):=by
  intro i j h
  have hj:j < bs.length:=by rw [iP];exact Mp j (x1.2 (cf h))
  rw [TV,qi (by rw [MR];omega),MR,Pg,Wy g bs Sp.mv i j h,ea hj]
  rfl
 have aoV:bn.length=n+Sp.mv.length:=by rw [TV,List.length_append,MR,VH]
 have atG:∀i x,bs[i]?=some x->x.live=.live->bn[g i]?=some (o5 g x):=by
  intro i x hx hl
  have hi:i < io.length:=by rw [<-iP];exact (a7.1 hx).1
  cases hm:fS i Sp.mv with
  | true=>rw [gN i hm,Q1 _ _ (Hs hm),hx];rfl
  | false =>
   obtain ⟨z,hz,jK⟩:=Iu i x hx hm
   have:σ i < n:=by
    rcases FX i z hz with h|h
    ·exact h
    ·rw [h] at jK;cases jK
   rw [gO i hm hi,Iv i hi this hm,hx];rfl
 let ηn:Nat->Value:=λl=>if l < n then η l else match Sp.mv[l - n]? with
  | some j=>η3 j
  | none=>.nilIface
 have aoW:∀i x,bs[i]?=some x->x.live=.live->fS i Sp.mv=false->η3 i=η' i:=by
  intro i x hx hl hm
  obtain ⟨z,hz,jK⟩:=Iu i x hx hm
  obtain ⟨t1,t2⟩:=Yo η' Sp.mv io 0 i z hz (by rw [oZ];exact hm)
  rw [oZ] at t1 t2
  obtain ⟨u,hu,hr⟩:=ud D5.sv i _ t1
  have:(yB η' 0 io)[i]?=some u:=hu
  rw [t2] at this
  simp at this
  subst this
  exact alp jK (Sl i z hz) (by rw [cx hx];exact hl) hr
 have ηG:∀i x,bs[i]?=some x->x.live=.live->ηn (g i)=η3 i:=by
  intro i x hx hl
  have hi:i < io.length:=by rw [<-iP];exact (a7.1 hx).1
  cases hm:fS i Sp.mv with
  | true =>
   rw [gN i hm]
   simp only [ηn]
   rw [if_neg (by omega),Pg,Hs hm]
  | false =>
   obtain ⟨z,hz,jK⟩:=Iu i x hx hm
   have aO:σ i < n:=by
    rcases FX i z hz with h|h
    ·exact h
    ·rw [h] at jK;cases jK
   rw [gO i hm hi]
   simp only [ηn]
   rw [if_pos aO]
   exact (aoW i x hx hl hm).symm
 have TG:iI η3 (λi=>ηn (g i)) (aS bs) (λi=>aS bn (g i)):=by
  intro i
  cases hq:aS bs i with
  | un=>trivial
  | live =>
   obtain ⟨x,hx,hl⟩:=td hq
   left
   exact ⟨by show aS bn (g i)=.live;rw [cx (atG i x hx hl),tT,hl],ηG i x hx hl⟩
  | dead =>
   show aS bn (g i)=.dead
   have hx:∃x,bs[i]?=some x/\x.live=.dead:=by
    unfold aS at hq
    split at hq
    ·exact ⟨_,by assumption,hq⟩
    ·cases hq
   obtain ⟨x,hx,hl⟩:=hx
   have hi:i < io.length:=by rw [<-iP];exact (a7.1 hx).1
   cases hm:fS i Sp.mv with
   | true=>rw [gN i hm,cx (by rw [Q1 _ _ (Hs hm),hx];rfl),tT,hl]
   | false =>
    rw [gO i hm hi]
    by_cases aO:σ i < n
    ·rw [cx (by rw [Iv i hi aO hm,hx];rfl),tT,hl]
    ·obtain ⟨z,hz,jK⟩:=Iu i x hx hm
     rcases FX i z hz with h|h
     ·exact absurd h aO
     ·rw [h] at jK;cases jK
 have TB:iI η ηn (aS b1) (aS bn):=by
  intro l
  cases hq:aS b1 l with
  | un=>trivial
  | live =>
   obtain ⟨x,hx,hl⟩:=td hq
   have kP:l < n:=by rw [<-ig];exact (a7.1 hx).1
   by_cases hc:∃i,i < io.length/\σ i=l
   ·obtain ⟨i,hi,rfl⟩:=hc
    cases hm:fS i Sp.mv with
    | true=>right;rw [cx (Sm i kP hm)];rfl
    | false =>
     have rv:bs[i]?=some bs[i]:=ea (by rw [iP];exact hi)
     have e:=Iv i hi kP hm
     rw [rv] at e
     cases hz:(bs[i]).live with
     | un =>
      exfalso
      have:bs[i]=.un:=by cases hy:bs[i]<;>rw [hy] at hz<;>first|rfl|cases hz
      exact I.nu a y i (by rw [<-this];exact rv)
     | dead=>right;rw [cx e,tT,hz]
     | live =>
      left
      refine ⟨by rw [cx e,tT,hz],?_⟩
      simp only [ηn];rw [if_pos kP]
   ·left
    refine ⟨by rw [cx ((Sn l kP λi hi e=>hc ⟨i,hi,e⟩).trans hx),hl],?_⟩
    simp only [ηn];rw [if_pos kP]
  | dead =>
   show aS bn l=.dead
   have hx:∃x,b1[l]?=some x/\x.live=.dead:=by
    unfold aS at hq
    split at hq
    ·exact ⟨_,by assumption,hq⟩
    ·cases hq
   obtain ⟨x,hx,hl⟩:=hx
   have kP:l < n:=by rw [<-ig];exact (a7.1 hx).1
   by_cases hc:∃i,i < io.length/\σ i=l
   ·obtain ⟨i,hi,rfl⟩:=hc
    cases hm:fS i Sp.mv with
    | true=>rw [cx (Sm i kP hm)];rfl
    | false =>
     have rv:bs[i]?=some bs[i]:=ea (by rw [iP];exact hi)
     have e:=Iv i hi kP hm
     rw [rv] at e
     rw [cx e,tT]
     cases hz:(bs[i]).live with
     | un =>
      exfalso
      have:bs[i]=.un:=by cases hy:bs[i]<;>rw [hy] at hz<;>first|rfl|cases hz
      exact I.nu a y i (by rw [<-this];exact rv)
     | dead=>rfl
     | live =>
      exfalso
      obtain ⟨z,TW,jK⟩:=Iu i _ rv hm
      have:=Jm i z TW kP
      rw [hx] at this
      simp at this
      rw [this,tT,jK] at hl
      cases hl
   ·rw [cx ((Sn l kP λi hi e=>hc ⟨i,hi,e⟩).trans hx),hl]
 have cls:∀l x,bn[l]?=some x->x.live=.live->(∃i z,bs[i]?=some z/\z.live=.live/\g i=l/\x=o5 g z)\/(l < n/\b1[l]?=some x/\∀i,i < io.length->σ i≠l):=by
  intro l x hx hl
  by_cases kP:l < n
  ·by_cases hc:∃i,i < io.length/\σ i=l
   ·obtain ⟨i,hi,rfl⟩:=hc
    cases hm:fS i Sp.mv with
    | true =>
     rw [Sm i kP hm] at hx
     simp at hx;subst hx;cases hl
    | false =>
     left
     have rv:bs[i]?=some bs[i]:=ea (by rw [iP];exact hi)
     rw [Iv i hi kP hm,rv] at hx
     simp at hx;subst hx
     exact ⟨i,_,rv,by rw [tT] at hl;exact hl,gO i hm hi,rfl⟩
   ·right
    have dx:∀i,i < io.length->σ i≠l:=λi hi e=>hc ⟨i,hi,e⟩
    exact ⟨kP,by rw [<-Sn l kP dx];exact hx,dx⟩
  ·left
   have mJ:=(a7.1 hx).1
   rw [aoV] at mJ
   obtain ⟨j,hj⟩:∃j,Sp.mv[l - n]?=some j:=⟨_,ea (by omega)⟩
   have e:=Q1 _ _ hj
   rw [show n+(l - n)=l by omega,hx] at e
   have Dh:fS j Sp.mv=true:=x1.2 (cf hj)
   have dG:j < bs.length:=by rw [iP];exact Mp j Dh
   have hbj:bs[j]?=some bs[j]:=ea dG
   rw [hbj] at e
   simp at e;subst e
   refine ⟨j,_,hbj,by rw [tT] at hl;exact hl,?_,rfl⟩
   rw [gN j Dh,aki I.mv.1 hj];omega
 have Iw:∀i z,bs[i]?=some z->z.live=.live->∀bl,cy (ηn (g i))=some bl->cy (η3 i)=some bl:=λi z h1 h2 bl h=>by rw [ηG i z h1 h2] at h;exact h
 have Ix:∀l x,l < n->b1[l]?=some x->x.live=.live->∀bl,cy (ηn l)=some bl->cy (η l)=some bl:=λl x h1 h2 h3 bl h=>by
  simp only [ηn] at h;rw [if_pos h1] at h;exact h
 have others:∀l bl,aS b1 l=.live->(∀i,i < io.length->σ i≠l)->cy (η l)=some bl->∃o,w.heap[bl]?=some o/\F' bl=some o/\w'.heap[bl]?=some o:=by
  intro l bl h1 h2 h3
  have hb:=D1.BY h1 h3
  have e:=ank l bl h1 h2 h3
  rw [vq hb] at e
  exact ⟨_,vq hb,e,D5.fw bl _ e⟩
 have Dn:Den f ⟨[],bn⟩ ηn H3 ⟨#[],[]⟩ w':={
  t:=by simp [aP]
  sv:=gC TB D5.h0 _ _ D1.sv
  d:=by rw [hd];rfl
  h0:=D1.h0.trans D5.h0
  hw:=D5.hw
  fw:=λbl o h=>D5.fw bl o (RC bl o h)
  hf:=λbl h=>by
   rcases D5.hf bl h with h1|h1
   ·exact D1.hf bl h1
   ·right
    cases hF:f.F bl with
    | none=>rfl
    | some o=>have h1:F' bl=none:=h1;rw [RC bl o hF] at h1;cases h1
  sl:=λl x hx=>by
   cases hl:x.live with
   | live =>
    rcases cls l x hx hl with ⟨i,z,hz,jK,rfl,rfl⟩|⟨kP,uS,dx⟩
    ·refine Wx.2 ?_
     exact (D5.sl i z hz).MK TG λ_=>ηG i z hz jK
    ·refine (D1.sl l x uS).kept TB D5.h0 (by simp only [ηn];rw [if_pos kP]) λbl hb=>?_
     obtain ⟨o,h1,_,h2⟩:=others l bl (by rw [cx uS];exact hl) dx hb
     rw [h1,h2]
   | un=>cases x<;>first|trivial|cases hl
   | dead=>cases x<;>first|trivial|cases hl
  dj:=λl l' bl h1 h2 h3 h4=>by
   obtain ⟨x,hx,hl⟩:=td h1
   obtain ⟨x',nt,ja⟩:=td h2
   rcases cls l x hx hl with ⟨i,z,hz,jK,rfl,rfl⟩|⟨kP,uS,dx⟩<;>rcases cls l' x' nt ja with ⟨i',z',C8,MS,rfl,rfl⟩|⟨aco,MT,aoX⟩
   ·rw [D5.dj i i' bl (by rw [cx hz];exact jK) (by rw [cx C8];exact MS) (Iw i z hz jK bl h3) (Iw i' z' C8 MS bl h4)]
   ·exfalso
    obtain ⟨o,_,e,_⟩:=others l' bl (by rw [cx MT];exact ja) aoX (Ix l' x' aco MT ja bl h4)
    have:=(D5.dh i bl (by rw [cx hz];exact jK) (Iw i z hz jK bl h3)).2
    have:F' bl=none:=this
    rw [e] at this;cases this
   ·exfalso
    obtain ⟨o,_,e,_⟩:=others l bl (by rw [cx uS];exact hl) dx (Ix l x kP uS hl bl h3)
    have:=(D5.dh i' bl (by rw [cx C8];exact MS) (Iw i' z' C8 MS bl h4)).2
    have:F' bl=none:=this
    rw [e] at this;cases this
   ·exact D1.dj l l' bl (by rw [cx uS];exact hl) (by rw [cx MT];exact ja) (Ix l x kP uS hl bl h3) (Ix l' x' aco MT ja bl h4)
  dh:=λl bl h1 h2=>by
   obtain ⟨x,hx,hl⟩:=td h1
   rcases cls l x hx hl with ⟨i,z,hz,jK,rfl,rfl⟩|⟨kP,uS,dx⟩
   ·obtain ⟨e1,e2⟩:=D5.dh i bl (by rw [cx hz];exact jK) (Iw i z hz jK bl h2)
    refine ⟨e1,?_⟩
    cases hF:f.F bl with
    | none=>rfl
    | some o=>have e2:F' bl=none:=e2;rw [RC bl o hF] at e2;cases e2
   ·have hb:=Ix l x kP uS hl bl h2
    have hq:aS b1 l=.live:=by rw [cx uS];exact hl
    obtain ⟨o,_,e,_⟩:=others l bl hq dx hb
    refine ⟨?_,(D1.dh l bl hq hb).2⟩
    cases hH:H3 bl with
    | none=>rfl
    | some o' =>
     rcases D5.hf bl (by rw [hH];simp) with h|h
     ·exact absurd (D1.dh l bl hq hb).1 h
     ·have h:F' bl=none:=h
      rw [e] at h;cases h
  os:=D5.os.trans D1.os
  tape:=D5.tape.trans D1.tape
  out:=D5.out.trans D1.out }
 have AP:rel ηn (aS bn) H3 (eZ g (Sp.res a y)) v:=by
  have:=D5.t
  simp only [aP] at this
  obtain ⟨u,us,e,h1,rfl⟩:=this
  simp at e;subst e
  exact (zY _ _).2 (uc TG (bu.le.refl _) _ _ h1)
 exact ⟨v,bn,ηn,H3,_,rfl,hk y ⟨k3.out⟩,Dn,AP⟩
def abf (x:Slot):Bool:=match x.live with
 | .live=>true
 | _=>false
def CT (mv:List Nat):Nat->List Slot->Bool
 | _,[]=>true
 | j,x :: r=>(fS j mv||abf x)&&CT mv (j+1) r
def FY:List Slot->Bool
 | []=>true
 | .un :: _=>false
 | _ :: r=>FY r
def FZ (n:Nat):List Nat->Bool
 | []=>true
 | j :: r=>Nat.blt j n&&!fS j r&&FZ n r
def NJ (mv:List Nat) (io l7:List Slot):Bool:=Nat.beq l7.length io.length&&CT mv 0 io&&FY l7&&FZ io.length mv
theorem Zk {mv:List Nat}:∀{io:List Slot} {j0:Nat},CT mv j0 io=true->∀(j:Nat) (z:Slot),io[j]?=some z->fS (j0+j) mv=false->z.live=.live
 | [],_,_,j,z,h,_=>by simp at h
 | x :: r,j0,h,0,z,hz,he=>by
  simp at hz;subst hz
  simp only [CT,cG,oq] at h
  simp only [qV] at he
  rw [he] at h
  have h1:=h.1
  simp only [oX,false_or] at h1
  unfold abf at h1
  split at h1
  ·assumption
  ·cases h1
 | x :: r,j0,h,j+1,z,hz,he=>by
  simp only [CT,cG] at h
  exact Zk h.2 j z (by simpa using hz) (by rw [show j0+1+j=j0+(j+1) by omega];exact he)
theorem Z0:∀{io:List Slot},FY io=true->∀j:Nat,io[j]?≠some .un
 | [],_,j=>by simp
 | x :: r,h,0=>by
  intro e
  simp at e;subst e
  simp [FY] at h
 | x :: r,h,j+1=>by
  have:FY r=true:=by cases x<;>first|exact h|simp [FY] at h
  simpa using Z0 this j
theorem Z1 {n:Nat}:∀{mv:List Nat},FZ n mv=true->mv.Nodup/\∀j∈mv,j < n
 | [],_=>by simp
 | j :: r,h=>by
  simp only [FZ,cG,oY] at h
  obtain ⟨⟨h1,h2⟩,h3⟩:=h
  obtain ⟨g1,g2⟩:=Z1 h3
  refine ⟨x5.2 ⟨λhm=>?_,g1⟩,λi hi=>?_⟩
  ·rw [x1.2 hm] at h2;cases h2
  ·rcases cJ.1 hi with rfl|hi
   ·exact D8 h1
   ·exact g2 i hi
structure acp (PP:Unit->Program) (X:Ctx) (lv:Nat) (fn:Func) (Sp:o6) (a:Sp.α):Prop where
 out:match fn.body with
  | some c=>wo (rf Sp.mv 0 (Sp.io a)) false PP X lv c (start (Sp.args a) fn.ntmps (Sp.io a)) (yF X fn.results.toList (IoK Sp a))
  | none=>False
theorem ai0 {PP:Unit->Program} {X:Ctx} (C:X.Ok (PP ())) (IL:mZ X) {lv:Nat} {fid:FuncId} {fn:Func} (F:lD (PP ()) fid fn) (k9:nO fn=true) {Sp:o6}
  (hw:∀a y,NJ Sp.mv (Sp.io a) (Sp.l7 a y)=true) (hm:∀a,CT Sp.mv 0 (Sp.io a)=true/\FZ (Sp.io a).length Sp.mv=true) (TX:Sp.mv.Nodup) (h0:∀a,Sp.pre a->acp PP X lv fn Sp a):nh PP fid Sp:=by
 obtain ⟨c,hb⟩:=sX.1 F.body
 have hc:codeOk c=true:=by unfold nO at k9;rw [hb] at k9;exact k9
 refine ⟨λa y=>?_,λa j z hz he=>?_,λa y j=>?_,⟨TX,λa=>(Z1 (hm a).2).2⟩,λa ha=>⟨λf η H ac w hS hd D=>?_⟩⟩
 ·have:=hw a y
  simp only [NJ,cG] at this
  exact nM this.1.1.1
 ·exact Zk (hm a).1 j z hz (by rw [oZ];exact he)
 ·have:=hw a y
  simp only [NJ,cG] at this
  exact Z0 this.1.2 j
 ·have h:=(h0 a ha).out
  rw [hb] at h
  exact Ew C F hb (zF C IL hc h) f η H ac w hS hd D
end
structure jT:Type 1 where
 α:Type
 args:α->List SV
 pre:α->Prop
 β:Type
 post:α->β->Prop
 res:α->β->SV
structure kQ (P:Unit->Program) (f:FuncId) (S:jT):Prop where
 lf:∀a,cN (S.args a)
 lr:∀a y,LF (S.res a y)
 run:∀a,S.pre a->∀(H F:bu) (w:World) (vals:List Value),H.iZ w->F.iZ w->dL H (S.args a) vals ->
  Calls (P ()) f vals.toArray w λe w'=>∃y v H',S.post a y/\e=.returned v/\H.le H'/\H'.iZ w'/\F.iZ w' /\
   (∀b,H' b≠none->H b≠none\/F b=none)/\pU H' (S.res a y) v/\w'.os=w.os/\w'.tape=w.tape/\w'.output=w.output
section
variable {P:Program} {X:Ctx} {f:Fr} {s s':St} {η:Nat->Value} {H:bu} {a:Act} {w:World}
structure Sq (Sp:jT) (a:Sp.α) (b:List Slot) (v:SV):Prop where
 out:∃y,yD (λ_=>Sp.post a y)/\TT (TS b v) (Sp.res a y)
theorem Sq.mk' {Sp:jT} {a:Sp.α} {b:List Slot} {v:SV} (y:Sp.β) (h:TT (TS b v) (Sp.res a y)) (hp:Sp.post a y):Sq Sp a b v:=⟨⟨y,⟨hp⟩,h⟩⟩
structure abg (PP:Unit->Program) (X:Ctx) (lv:Nat) (fn:Func) (Sp:jT) (a:Sp.α):Prop where
 out:match fn.body with
  | some c=>vc PP X lv c (start (Sp.args a) fn.ntmps []) (yF X fn.results.toList (Sq Sp a))
  | none=>False
theorem ag1 {PP:Unit->Program} {X:Ctx} (C:X.Ok (PP ())) (IL:mZ X) {lv:Nat} {fid:FuncId} {fn:Func} (F:lD (PP ()) fid fn) (k9:nO fn=true) {S:jT}
  (cv:∀a,cN (S.args a)) (iy:∀a y,LF (S.res a y)) (h0:∀a,S.pre a->abg PP X lv fn S a):kQ PP fid S where
 lf:=cv
 lr:=iy
 run:=λα ej H F0 w vals hH hF jv=>by
  obtain ⟨c,hb⟩:=sX.1 F.body
  have hc:codeOk c=true:=by unfold nO at k9;rw [hb] at k9;exact k9
  have h:=(h0 α ej).out
  rw [hb] at h
  let f:Fr:={ F:=F0,H0:=H,w0:=w }
  have D:Den f ⟨S.args α,[]⟩ (λ_=>.nilIface) H { tmps:=vals.toArray,defers:=[] } w:={
   t:=dL.up (bu.le.refl H) jv
   sv:=by simp [f,aP]
   d:=rfl
   h0:=bu.le.refl H
   hw:=hH
   fw:=hF
   hf:=λb hb=>.inl hb
   sl:=λl x hx=>by simp at hx
   dj:=λl l' b h=>by simp [aS] at h
   dh:=λl b h=>by simp [aS] at h
   os:=rfl
   tape:=rfl
   out:=rfl }
  refine (Ew C F hb (zF C IL hc h) f _ H _ w rfl rfl D).mono ?_
  rintro e w' ⟨v,b',η',H',xv,rfl,⟨y,hp,hk⟩,D2,h2⟩
  let G:bu:=λb=>match H' b with
   | some o=>some o
   | none=>match F0 b with
    | some _=>none
    | none=>w'.heap[b]?
  have hle:H'.le G:=λb o hb=>by simp only [G];rw [hb]
  have hG:G.iZ w':=λb o hb=>by
   simp only [G] at hb
   split at hb
   ·rename_i o' ho;simp at hb;subst hb;exact D2.hw b _ ho
   ·split at hb
    ·cases hb
    ·exact hb
  have EW:vM D2 G:=⟨hle,λl b hl hb=>by
   obtain ⟨e1,e2⟩:=D2.dh l b hl hb
   have l6:F0 b=none:=e2
   simp only [G,e1,l6]⟩
  have h3:=B3 EW 6 _ _ h2
  have h4:=uq hk.out h3
  refine ⟨y,v,G,hp.out,rfl,D2.h0.trans hle,hG,D2.fw,λb hb=>?_,pL _ _ (iy α y) h4,D2.os,D2.tape,D2.out⟩
  by_cases y5:F0 b=none
  ·exact .inr y5
  ·left
   have iK:H' b≠none:=by
    intro e
    apply hb
    simp only [G,e]
    cases hq:F0 b with
    | none=>exact absurd hq y5
    | some _=>rfl
   rcases D2.hf b iK with h|h
   ·exact h
   ·exact absurd h y5
theorem fh.of {P:Unit->Program} {fid:FuncId} {Sp:jT} (I:kQ P fid Sp) {S args:List SV} {b:List Slot} {k:List Slot->SV->Prop} (a:Sp.α)
  (mY:(dA (args.map (view b)) (Sp.args a)/\((∀y,(Sp.res a y).scalar=true)\/rq args=false))\/dA (wR args) (Sp.args a))
  (ej:yD λ_=>Sp.pre a) (hk:∀y,Hyp (λ_=>Sp.post a y)->k b (Sp.res a y)):fh S P fid args b k:=by
 refine ⟨λf η H ac w hS hd D=>?_⟩
 have fin:∀(Hc:bu),Hc.iZ w->dL Hc (Sp.args a) ac.tmps.toList ->
   (∀H' w' v y,Hc.le H'->H'.iZ w'->w.grownBy w' none->(∀b,H' b≠none->Hc b≠none\/w.heap.size<=b)->pU H' (Sp.res a y) v->∃H2,Den f ⟨args,b⟩ η H2 ac w'/\rel η (aS b) H2 (Sp.res a y) v)->Calls (P ()) fid ac.tmps w (Az f k):=by
  intro Hc dw jv iJ
  have:=I.run a ej.out Hc (iT w) w _ dw (zx w) jv
  rw [GY] at this
  refine this.mono λe w' ⟨y,v,H',hp,he,g1,g2,g3,g4,g5,g6,g7,g8⟩=>?_
  have gJ:=Kj g3 g6 g7 g8
  obtain ⟨H2,D',hr⟩:=iJ H' w' v y g1 g2 gJ (λb hb=>by
   rcases g4 b hb with h|h
   ·exact .inl h
   ·right
    unfold iT at h
    simpa using h) g5
  have wa:(⟨#[],[]⟩:Act).defers=f.dS.map ES:=by rw [hd];rfl
  exact ⟨v,b,η,H2,_,he,hk y ⟨hp⟩,{ D' with t:=by simp [aP],d:=wa },hr⟩
 have ht:aP η (aS b) H args ac.tmps.toList:=D.t
 have plain:dA args (Sp.args a)->Calls (P ()) fid ac.tmps w (Az f k):=λhle=>by
  refine fin H D.hw (kB _ _ (I.lf a) (jH hle ht)) ?_
  intro H' w' v y uB dw gJ bV iy
  exact ⟨H',D.share gJ uB dw bV,pU.up (bu.le.refl H') iy⟩
 rcases mY with ⟨hle,tv|hl⟩|hle
 ·have Mf:aP η (aS b) (iT w) (args.map (view b)) ac.tmps.toList:=by
   have:∀(xs:List SV) (vs:List Value),aP η (aS b) H xs vs->aP η (aS b) (iT w) (xs.map (view b)) vs:=by
    intro xs
    induction xs with
    | nil=>intro vs h;simpa [aP] using h
    | cons c r ih =>
     intro vs h
     simp only [aP,iG] at h ⊢
     obtain ⟨u,us,h1,h2,h3⟩:=h
     exact ⟨u,us,h1,B3 (vM.world D) 4 c u h2,ih us h3⟩
   exact this _ _ ht
  refine fin (iT w) (zx w) (kB _ _ (I.lf a) (jH hle Mf)) ?_
  intro H' w' v y _ _ gJ _ iy
  exact ⟨H,D.grown gJ,O0 _ _ (tv y) iy⟩
 ·rw [P8 b _ hl] at hle
  exact plain hle
 ·refine fin H D.hw (kB _ _ (I.lf a) (jH hle (BE _ _ ht))) ?_
  intro H' w' v y uB dw gJ bV iy
  exact ⟨H',D.share gJ uB dw bV,pU.up (bu.le.refl H') iy⟩
theorem fh.rel {P:Unit->Program} {fid:FuncId} {Sp:jT} (I:kQ P fid Sp) {S args:List SV} {b:List Slot} {k:List Slot->SV->Prop} (a:Sp.α)
 (mY:dA (wR args) (Sp.args a)) (ej:yD λ_=>Sp.pre a) (hk:∀y,Hyp (λ_=>Sp.post a y)->k b (Sp.res a y)):fh S P fid args b k:=.of I a (.inr mY) ej hk
end
section
variable {P:Program} {X:Ctx} {f:Fr} {s s':St} {η:Nat->Value} {H:bu} {a:Act} {w:World} {S:List SV} {r:Bool}
def Ar (l:Nat) (x:SV):SV:=match jI (λm=>Nat.beq m l) x with
 | true=>.any
 | false=>x
def zS (l:Nat):Slot->Slot
 | .fix e cs=>.fix e (cs.map (Ar l))
 | .fj e c xs i ys=>.fj e c xs i (ys.map (Ar l))
 | x=>x
def St.kill (l:Nat) (s:St):St:=match s.b[l]? with
 | some .un=>s
 | some _=>⟨s.t.map (Ar l),(s.b.map (zS l)).set l .dead⟩
 | none=>s
theorem Yp (l:Nat) (x:SV):Le x (Ar l x):=by
 unfold Ar
 split
 ·exact .any _
 ·exact .refl _
theorem Qi (l:Nat):∀xs:List SV,qG xs (xs.map (Ar l))
 | []=>trivial
 | x :: r=>by
  have:=Yp l x
  simp only [iG,qG]
  split
  ·exact Qi l r
  ·exact ⟨this,Qi l r⟩
theorem Qj (l:Nat):∀xs:List SV,dA xs (xs.map (Ar l))
 | []=>.nil
 | x :: r=>.cons (Yp l x) (Qj l r)
theorem Yq (l:Nat):∀(b:List Slot) (j:Nat),(∀i x,b[i]?=some x->i+j=l->Mo x)->ny b (match Nat.ble j l with|true=>(b.map (zS l)).set (l - j) .dead|false=>b.map (zS l))
 | [],j,_=>by split<;>trivial
 | x :: r,j,h=>by
  have ih:=Yq l r (j+1) λi y hy hi=>h (i+1) y (by simpa using hy) (by omega)
  have slot:cR x (zS l x):=by
   cases x<;>first|exact cR.refl _|exact cR.fix (Qj l _)|exact cR.fj rfl rfl (Qj l _)
  have unf:∀(y:Slot) (ys:List Slot),(y=.dead->Mo x)->(y=.un->acg x)->cR x y->ny r ys->ny (x :: r) (y :: ys):=by
   intro y ys h1 h2 h3 h4
   cases y<;>first|exact ⟨h1 rfl,h4⟩|exact ⟨h2 rfl,h4⟩|exact ⟨h3,h4⟩
  have Fb:∀ys,ny r ys->ny (x :: r) (zS l x :: ys):=λys oF=>by
   refine unf _ _ (λe=>?_) (λe=>?_) slot oF
   ·cases x<;>first|trivial|(simp [zS] at e)
   ·cases x<;>first|trivial|(simp [zS] at e)
  by_cases hj:j < l
  ·have e1:Nat.ble j l=true:=vu (by omega)
   have e2:Nat.ble (j+1) l=true:=vu (by omega)
   rw [e2] at ih
   rw [e1]
   simp only [iG]
   rw [show l - j=(l - (j+1))+1 by omega,KP]
   exact Fb _ ih
  ·have e2:Nat.ble (j+1) l=false:=by
    cases e:Nat.ble (j+1) l with
    | false=>rfl
    | true=>have:=D8 e;omega
   rw [e2] at ih
   by_cases dG:j=l
   ·subst dG
    have e1:Nat.ble j j=true:=vu (fb _)
    rw [e1]
    simp only [iG,zB,List.set_cons_zero]
    exact ⟨h 0 x (by simp) (by omega),ih⟩
   ·have e1:Nat.ble j l=false:=by
     cases e:Nat.ble j l with
     | false=>rfl
     | true=>have:=D8 e;omega
    rw [e1]
    simp only [iG]
    exact Fb _ ih
theorem Sat.kill {P:Unit->Program} {c:Code} {k:Exit->St->Prop} (l:Nat) (h:Sat S r P c (s.kill l) k):Sat S r P c s k:=by
 have main:(∀y,s.b[l]?=some y->Mo y)->Sat S r P c ⟨s.t.map (Ar l),(s.b.map (zS l)).set l .dead⟩ k->Sat S r P c s k:=λhn h=>by
  refine Sat.weaken ⟨Qi l s.t,?_⟩ h
  have:=Yq l s.b 0 λi y hy hi=>by
   have:i=l:=by omega
   subst this
   exact hn y hy
  have e1:Nat.ble 0 l=true:=vu (cg _)
  rw [e1] at this
  exact this
 unfold St.kill at h
 cases hb:s.b[l]? with
 | none=>rw [hb] at h;exact h
 | some x =>
  rw [hb] at h
  cases x with
  | un=>exact h
  | _=>exact main (λy hy=>by rw [hb] at hy;cases hy;trivial) h
end
mutual
theorem Qk (g:Nat->Nat):∀x:SV,LF x->eZ g x=x
 | .ptr ..,h=>h.elim
 | .gh ..,h=>h.elim
 | .own _,h=>h.elim
 | .eU ..,h=>h.elim
 | .gn _,h=>h.elim
 | .gy _,h=>h.elim
 | .agg cs,h=>by simp only [LF] at h;simp only [eZ,B8 g cs h]
 | .cM cs,h=>by simp only [LF] at h;simp only [eZ,B8 g cs h]
 | .ew cs n,h=>by simp only [LF] at h;simp only [eZ,B8 g cs h]
 | .dV cs off,h=>by simp only [LF] at h;simp only [eZ,B8 g cs h]
 | .fn f x y,h=>by simp only [LF] at h;simp only [eZ,B8 g x h.1,B8 g y h.2]
 | .mC t x,h=>by simp only [LF] at h;simp only [eZ,Qk g x h]
 | .sl ..,_=>by rw [eZ]
 | .gq ..,_=>by rw [eZ]
 | .mp ..,_=>by rw [eZ]
 | .opt ..,_=>by rw [eZ]
 | .any,_=>by rw [eZ]
 | .cell,_=>by rw [eZ]
 | .bc _,_=>by rw [eZ]
 | .b _,_=>by rw [eZ]
 | .nb _ _,_=>by rw [eZ]
 | .ic _ _,_=>by rw [eZ]
 | .i _ _,_=>by rw [eZ]
 | .str _,_=>by rw [eZ]
 | .v _,_=>by rw [eZ]
 | .cQ,_=>by rw [eZ]
theorem B8 (g:Nat->Nat):∀xs:List SV,cN xs->pY g xs=xs
 | [],_=>rfl
 | x :: r,h=>by simp only [cN] at h;simp only [pY,Qk g x h.1,B8 g r h.2]
end
theorem fh.uT {P:Unit->Program} {fid:FuncId} {Sp:o6} (I:nh P fid Sp) (cv:∀a y,LF (Sp.res a y)) {S args:List SV} {b:List Slot} {k:List Slot->SV->Prop} (a:Sp.α) (L:List Nat)
  (iY:CR (Sp.io a) L b.length []=true) (mY:dA args (pY (wq L b.length) (Sp.args a))) (TU:ny b (uw (wq L b.length) (λ_=>false) 0 (Sp.io a) b))
  (ej:yD λ_=>Sp.pre a) (hk:∀y,Hyp (λ_=>Sp.post a y)->k (QD b L Sp.mv (Sp.l7 a y)) (Sp.res a y)):fh S P fid args b k :=
 .io I a L iY mY TU ej λy hy=>by rw [Qk _ _ (cv a y)];exact hk y hy
theorem bW {p:Prop} (h:p:=by ((repeat' first|exact dA.nil|exact Le.refl _|refine dA.cons ?_ ?_|exact Le.ic rfl|exact Le.bc rfl|exact Le.i rfl|exact Le.b rfl|exact Le.sl rfl|exact Le.mp rfl|exact Le.gq rfl|exact Le.pP rfl|refine Le.cQ rfl (λ_=>?_)|refine Le.ew rfl (λ_ _=>rfl) (λ_=>?_) ?_|refine Le.agg ?_|refine Le.cM ?_|refine Le.fn ?_ ?_|refine Le.dV ?_|exact trivial|refine And.intro ?_ ?_|refine λ_=>?_|exact Le.any _))<;>first|exact Le.i (by with_reducible assumption)|exact Le.i (mS (by with_reducible assumption))|exact Le.sl (by with_reducible assumption)|exact Le.sl (mS (by with_reducible assumption))|exact Le.ic (by with_reducible assumption)|exact Le.ic (mS (by with_reducible assumption))|exact Le.b (by with_reducible assumption)|exact Le.b (mS (by with_reducible assumption))|exact Le.bc (by with_reducible assumption)|exact Le.i (by assumption)|exact Le.i (mS (by assumption))|exact Le.sl (by assumption)|exact Le.sl (mS (by assumption))|exact Le.b (by assumption)|exact Le.b (mS (by assumption))):p:=h
theorem aM {p:Prop} (h:p:=by ((try cbv)<;>(repeat' (first|with_reducible exact trivial|with_reducible refine And.intro ?_ ?_))<;>(try first|exact cR.refl _|exact cR.dyn rfl|exact cR.map rfl|exact cR.iter rfl rfl (.inl rfl)|exact cR.iter rfl rfl (.inr rfl)|refine cR.fix ?_|refine cR.dyn ?_)<;>((repeat' first|exact dA.nil|exact Le.refl _|refine dA.cons ?_ ?_|exact Le.ic rfl|exact Le.bc rfl|exact Le.i rfl|exact Le.b rfl|exact Le.sl rfl|exact Le.mp rfl|exact Le.gq rfl|exact Le.pP rfl|refine Le.cQ rfl (λ_=>?_)|refine Le.ew rfl (λ_ _=>rfl) (λ_=>?_) ?_|refine Le.agg ?_|refine Le.cM ?_|refine Le.fn ?_ ?_|refine Le.dV ?_|exact trivial|refine And.intro ?_ ?_|refine λ_=>?_|exact Le.any _)))<;>first|exact Le.i (by with_reducible assumption)|exact Le.i (mS (by with_reducible assumption))|exact Le.sl (by with_reducible assumption)|exact Le.sl (mS (by with_reducible assumption))|exact Le.ic (by with_reducible assumption)|exact Le.ic (mS (by with_reducible assumption))|exact Le.b (by with_reducible assumption)|exact Le.b (mS (by with_reducible assumption))|exact Le.bc (by with_reducible assumption)|exact Le.i (by assumption)|exact Le.i (mS (by assumption))|exact Le.sl (by assumption)|exact Le.sl (mS (by assumption))|exact Le.b (by assumption)|exact Le.b (mS (by assumption))):p:=h
theorem bp {p:Prop} (h:p:=by ((try cbv)<;>((repeat' first|exact dA.nil|exact Le.refl _|refine dA.cons ?_ ?_|exact Le.ic rfl|exact Le.bc rfl|exact Le.i rfl|exact Le.b rfl|exact Le.sl rfl|exact Le.mp rfl|exact Le.gq rfl|exact Le.pP rfl|refine Le.cQ rfl (λ_=>?_)|refine Le.ew rfl (λ_ _=>rfl) (λ_=>?_) ?_|refine Le.agg ?_|refine Le.cM ?_|refine Le.fn ?_ ?_|refine Le.dV ?_|exact trivial|refine And.intro ?_ ?_|refine λ_=>?_|exact Le.any _)))<;>first|exact Le.i (by with_reducible assumption)|exact Le.i (mS (by with_reducible assumption))|exact Le.sl (by with_reducible assumption)|exact Le.sl (mS (by with_reducible assumption))|exact Le.ic (by with_reducible assumption)|exact Le.ic (mS (by with_reducible assumption))|exact Le.b (by with_reducible assumption)|exact Le.b (mS (by with_reducible assumption))|exact Le.bc (by with_reducible assumption)|exact Le.i (by assumption)|exact Le.i (mS (by assumption))|exact Le.sl (by assumption)|exact Le.sl (mS (by assumption))|exact Le.b (by assumption)|exact Le.b (mS (by assumption))):p:=h
theorem iX {S:List SV} {r:Bool} {P:Unit->Program} {c:Code} {s:Vc.St} {k:Exit->Vc.St->Prop} (n:Nat) (s':Vc.St) (h0:qG (s.cut n).t s'.t) (rA:ny (s.cut n).b s'.b)
 (h:Sat S r P c s' k) (hn:mB (Nat.ble n) S=false:=by rfl):Sat S r P c s k:=⟨λF R f η H a w hS D=>h.out F R f η H a w hS ((D.cut n (by rw [hS];exact hn)).weaken ⟨h0,rA⟩)⟩
theorem yb {G:Prop} (T:Code->(Exit->Vc.St->Prop)->Prop) {c:Code} {k:Exit->Vc.St->Prop} (main:T c k->G) (tail:T c k):G:=main tail
def Sr (P:Program) (f:FuncId) (S:Spec):Prop:=∀a,S.pre a->∀(H F:bu) (w:World) (vals:List Value),H.iZ w->F.iZ w->dL H (S.args a) vals ->
 Calls P f vals.toArray w λe w'=>∃v N,e=.returned v/\H.iZ w'/\F.iZ w'/\bu.iZ N w'/\(∀b,N b≠none->H b=none/\F b=none)/\pU N (S.res a) v /\
  w'.os=w.os/\w'.tape=w.tape/\w'.output=w.output
theorem Sr.spec {P:Program} {f:FuncId} {S:Spec} (I:Sr P f S) {fn:Func} (F:lD P f fn) (cv:∀a,cN (S.args a)) (iy:∀a,LF (S.res a)):dt P f S where
 fn:=⟨fn,F⟩
 lf:=cv
 lr:=iy
 fresh:=λ_=>I
 run:=λa hp H F w vals hH hF hr=>by
  refine (I a hp H F w vals hH hF hr).mono ?_
  rintro e w' ⟨v,N,he,g1,g2,g3,g4,g5,g6,g7,g8⟩
  let G:bu:=λb=>match H b with
   | some o=>some o
   | none=>N b
  have Tw:N.le G:=λb o hb=>by
   have:=(g4 b (by rw [hb];simp)).1
   simp only [G,this];exact hb
  refine ⟨v,G,he,λb o hb=>by simp only [G];rw [hb],λb o hb=>?_,g2,λb hb=>?_,uc (iI.refl _ _) Tw _ _ g5,g6,g7,g8⟩
  ·simp only [G] at hb
   split at hb
   ·rename_i o' ho;simp at hb;subst hb;exact g1 b _ ho
   ·exact g3 b o hb
  ·cases hq:H b with
   | some o=>exact .inl (by simp)
   | none =>
    right
    exact (g4 b (by simpa only [G,hq] using hb)).2
section
variable {P:Program} {X:Ctx} {f:Fr} {s s':St} {η:Nat->Value} {H:bu} {a:Act} {w:World}
structure aoY (r:SV) (b:List Slot) (v:SV):Prop where
 out:match v with
  | .own l=>(match b[l]? with
   | some (.dyn e sz c xs)=>Le (.sl sz c xs) r/\∀x,zW (c x)=true
   | _=>False)
  | .eU l C4 g n=>(match b[l]? with
   | some (.dyn e sz c xs)=>C4=sz/\n ()<=(xs ()).length/\Le (.sl sz c λ_=>((xs ()).take (n ())).drop (g ())) r/\∀x,zW (c x)=true
   | _=>False)
  | _=>False
structure abh (PP:Unit->Program) (X:Ctx) (lv:Nat) (fn:Func) (args:List SV) (res:SV):Prop where
 out:match fn.body with
  | some c=>vc PP X lv c (start args fn.ntmps []) (yF X fn.results.toList (aoY res))
  | none=>False
theorem ag2 {PP:Unit->Program} {X:Ctx} (C:X.Ok (PP ())) (IL:mZ X) {lv:Nat} {fid:FuncId} {fn:Func} (F:lD (PP ()) fid fn) (k9:nO fn=true) {S:Spec}
  (cv:∀a,cN (S.args a)) (iy:∀a,LF (S.res a)) (h0:∀a,S.pre a->abh PP X lv fn (S.args a) (S.res a)):dt (PP ()) fid S:=by
 refine Sr.spec (λα ej H F0 w vals hH hF jv=>?_) F cv iy
 ·obtain ⟨c,hb⟩:=sX.1 F.body
  have hc:codeOk c=true:=by unfold nO at k9;rw [hb] at k9;exact k9
  have h:=(h0 α ej).out
  rw [hb] at h
  let f:Fr:={ F:=F0,H0:=H,w0:=w }
  have D:Den f ⟨S.args α,[]⟩ (λ_=>.nilIface) H { tmps:=vals.toArray,defers:=[] } w:={
   t:=dL.up (bu.le.refl H) jv
   sv:=by simp [f,aP]
   d:=rfl
   h0:=bu.le.refl H
   hw:=hH
   fw:=hF
   hf:=λb hb=>.inl hb
   sl:=λl x hx=>by simp at hx
   dj:=λl l' b h=>by simp [aS] at h
   dh:=λl b h=>by simp [aS] at h
   os:=rfl
   tape:=rfl
   out:=rfl }
  refine (Ew C F hb (zF C IL hc h) f _ H _ w rfl rfl D).mono ?_
  rintro e w' ⟨v,b',η',H',xv,rfl,hk,D2,h2⟩
  have hk:=hk.out
  have fin:∀{T:Type} (sz:Nat) (c:T->List SV) (xs:Unit->List T) (l:Nat) (v:Value),aS b' l=.live->rel η' (aS b') (iT w') (.sl sz c xs) v->(∀x,zW (c x)=true)->Le (.sl sz c xs) (S.res α) ->
    (∀ad n cp,v=.slice (some ad) n cp->0 < n->n<=cp->cy (η' l)=some ad.block)->∃v' N,Ending.returned v=.returned v'/\H.iZ w'/\F0.iZ w'/\bu.iZ N w'/\(∀b,N b≠none->H b=none/\F0 b=none)/\pU N (S.res α) v' /\
     w'.os=w.os/\w'.tape=w.tape/\w'.output=w.output:=by
   intro T sz c xs l v hq h3 tv Iy iP
   let N:bu:=λb=>if cy (η' l)=some b then w'.heap[b]? else none
   have hN:pU N (.sl sz c xs) v:=by
    simp only [rel] at h3 ⊢
    obtain ⟨⟨ad,cap,h1,h0,h2⟩,cv⟩:=h3
    refine ⟨⟨ad,cap,h1,h0,?_⟩,cv⟩
    rcases h2 with h|⟨a,ha,hs,eG⟩
    ·exact .inl h
    ·by_cases I4:xs ()=[]
     ·exact .inl I4
     ·refine .inr ⟨a,ha,hs,λj x hj=>?_⟩
      obtain ⟨vals,g1,g2,g3⟩:=eG j x hj
      have r9:0 < (xs ()).length:=List.length_pos_iff.2 I4
      have hblk:cy (η' l)=some a.block:=iP a _ cap (by rw [h1,ha]) r9 h0
      refine ⟨vals,g1,Kt _ _ (tv x) g2,λi u hu=>?_⟩
      have:=g3 i u hu
      unfold pO at this ⊢
      simp only [N,hblk,if_true]
      exact this
   refine ⟨_,N,rfl,λb o hb=>D2.hw b o (D2.h0 b o hb),D2.fw,λb o hb=>?_,λb hb=>?_,uq Iy hN,D2.os,D2.tape,D2.out⟩
   ·simp only [N] at hb
    split at hb
    ·exact hb
    ·cases hb
   ·simp only [N] at hb
    split at hb
    ·rename_i oH
     obtain ⟨e1,e2⟩:=D2.dh l b hq oH
     refine ⟨?_,e2⟩
     cases hHb:H b with
     | none=>rfl
     | some o=>have:=D2.h0 b o hHb;rw [e1] at this;cases this
    ·exact absurd rfl hb
  have EW:vM D2 (iT w'):=vM.world D2
  split at hk
  case h_3=>exact hk.elim
  ·rename_i l _
   split at hk
   case h_2=>exact hk.elim
   rename_i T e sz c xs hx
   obtain ⟨Iy,tv⟩:=hk
   have hq:aS b' l=.live:=cx hx
   simp only [rel,hq] at h2
   obtain ⟨hv,gS⟩:=h2
   subst hv
   have h3:=B3 EW 6 (.own l) (η' l) (by simp only [rel];rw [show aS (St.mk [] b').b l=.live from hq];exact ⟨trivial,gS⟩)
   simp only [iW,hx] at h3
   refine fin sz c xs l _ hq h3 tv Iy λad n cp h1 hn hc=>?_
   rw [h1];simp only [cy];rw [if_neg (by omega)]
  ·rename_i l C4 g n _
   split at hk
   case h_2=>exact hk.elim
   rename_i T e sz c xs hx
   obtain ⟨rfl,hn0,Iy,tv⟩:=hk
   have hq:aS b' l=.live:=cx hx
   have h3:=B3 EW 6 (.eU l C4 g n) _ h2
   simp only [iW,hx,PI] at h3
   simp only [rel,hq] at h2
   obtain ⟨Tq,nn,c0,he,xm,sw,lG,c',hv,-,NI,-⟩:=h2
   obtain ⟨vals,kK,-⟩:=D2.sl l _ hx
   refine fin C4 c _ l _ hq h3 tv Iy λad k cp h1 hn hc=>?_
   rw [hv] at h1
   cases h1
   obtain ⟨bl,h5,h6⟩:=NI (by omega)
   cases h6
   rw [he,h5]
   rcases kK with ⟨-,bO⟩|⟨⟨ad2,h7⟩,h8,-⟩
   ·have:c0≠0:=λe0=>bO Tq nn (by rw [he,e0])
    simp only [cy];rw [if_neg this]
   ·rw [he] at h7;cases h7;omega
end
end Go.Vc
