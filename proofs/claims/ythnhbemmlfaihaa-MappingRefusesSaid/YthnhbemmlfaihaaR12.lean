import Derived.Test.YthnhbemmlfaihaaR11
set_option linter.unusedVariables false
set_option linter.unusedSimpArgs false
set_option maxRecDepth 10000
set_option maxHeartbeats 64000000
namespace Go.Vc
open Go
mutual
def eA (g:Nat->Nat):SV->SV
 | .ptr m off=>.ptr (g m) off
 | .fq m sz i off=>.fq (g m) sz i off
 | .own m=>.own (g m)
 | .et m sz i j=>.et (g m) sz i j
 | .agg cs=>.agg (oB g cs)
 | .ca cs=>.ca (oB g cs)
 | .dO cs n=>.dO (oB g cs) n
 | .dg cs off=>.dg (oB g cs) off
 | .fn f x y=>.fn f (oB g x) (oB g y)
 | .lu t x=>.lu t (eA g x)
 | .sl sz c xs=>.sl sz c xs
 | .fA sz c xs=>.fA sz c xs
 | .mp j c m=>.mp j c m
 | .opt p x=>.opt p x
 | .fy m=>.fy (g m)
 | .fK m=>.fK (g m)
 | .any=>.any
 | .cell=>.cell
 | .bc c=>.bc c
 | .b x=>.b x
 | .nb d p=>.nb d p
 | .ic k x=>.ic k x
 | .i k x=>.i k x
 | .str x=>.str x
 | .v x=>.v x
 | .cH=>.cH
def oB (g:Nat->Nat):List SV->List SV
 | []=>[]
 | x :: r=>eA g x :: oB g r
end
def nm (g:Nat->Nat):Slot->Slot
 | .fix e cs=>.fix e (oB g cs)
 | .e7 e c xs i ys=>.e7 e c xs i (oB g ys)
 | .dT ts ps ef body st=>.dT (oB g ts) ps ef body st
 | x=>x
section
variable {P:Program} {X:Ctx} {f:Fr} {s s':St} {η:Nat->Value} {H:aV} {a:Act} {w:World}
mutual
theorem xT {q:Nat->Live} {g:Nat->Nat}:∀(x:SV) (v:Value),rel η q H (eA g x) v↔rel (λl=>η (g l)) (λl=>q (g l)) H x v
 | .ptr m off,v=>by simp only [eA,rel]
 | .fq m sz i off,v=>by simp only [eA,rel]
 | .own m,v=>by simp only [eA,rel]
 | .et m sz i j,v=>by simp only [eA,rel]
 | .agg cs,v=>by
  simp only [eA,rel]
  exact ⟨λ⟨vs,h1,h2⟩=>⟨vs,h1,(lC cs vs).1 h2⟩,λ⟨vs,h1,h2⟩=>⟨vs,h1,(lC cs vs).2 h2⟩⟩
 | .ca cs,v=>by
  simp only [eA,rel]
  exact ⟨λ⟨vs,h1,h2⟩=>⟨vs,h1,(lC cs vs).1 h2⟩,λ⟨vs,h1,h2⟩=>⟨vs,h1,(lC cs vs).2 h2⟩⟩
 | .dO cs n,v=>by
  simp only [eA,rel]
  exact ⟨λ⟨ad,h1,h2⟩=>⟨ad,h1,h2.imp id λ⟨b,h3,h4,vs,h5,h6⟩=>⟨b,h3,h4,vs,(lC cs vs).1 h5,h6⟩⟩,
   λ⟨ad,h1,h2⟩=>⟨ad,h1,h2.imp id λ⟨b,h3,h4,vs,h5,h6⟩=>⟨b,h3,h4,vs,(lC cs vs).2 h5,h6⟩⟩⟩
 | .dg cs off,v=>by
  simp only [eA,rel]
  exact ⟨λ⟨b,h1,vs,h2,h3⟩=>⟨b,h1,vs,(lC cs vs).1 h2,h3⟩,λ⟨b,h1,vs,h2,h3⟩=>⟨b,h1,vs,(lC cs vs).2 h2,h3⟩⟩
 | .fn f x y,v=>by
  simp only [eA,rel]
  exact ⟨λ⟨fs,cs,h1,h2,h3⟩=>⟨fs,cs,h1,(lC x fs).1 h2,(lC y cs).1 h3⟩,λ⟨fs,cs,h1,h2,h3⟩=>⟨fs,cs,h1,(lC x fs).2 h2,(lC y cs).2 h3⟩⟩
 | .lu t x,v=>by
  simp only [eA,rel]
  exact ⟨λ⟨y,h1,h2⟩=>⟨y,h1,(xT x y).1 h2⟩,λ⟨y,h1,h2⟩=>⟨y,h1,(xT x y).2 h2⟩⟩
 | .sl sz c xs,v=>by
  rw [eA]
  constructor<;>intro h<;>refine oh _ _ ?_ h<;>(simp only [rel,LF] at h ⊢;exact h.2)
 | .fA sz c xs,v=>by
  rw [eA]
  constructor<;>intro h<;>refine oh _ _ ?_ h<;>(simp only [rel,LF] at h ⊢;exact h.2)
 | .mp j c m,v=>by
  rw [eA]
  constructor<;>intro h<;>refine oh _ _ ?_ h<;>(simp only [rel,LF] at h ⊢;exact h.2)
 | .opt p x,v=>by
  rw [eA]
  constructor<;>intro h<;>refine oh _ _ ?_ h<;>(simp only [rel,LF] at h ⊢;exact h.2)
 | .fy m,v=>by simp only [eA,rel]
 | .fK m,v=>by simp only [eA,rel]
 | .any,v=>by simp only [eA,rel]
 | .cell,v=>by simp only [eA,rel]
 | .bc c,v=>by simp only [eA,rel]
 | .b x,v=>by simp only [eA,rel]
 | .nb d p,v=>by simp only [eA,rel]
 | .ic k x,v=>by simp only [eA,rel]
 | .i k x,v=>by simp only [eA,rel]
 | .str x,v=>by simp only [eA,rel]
 | .v x,v=>by simp only [eA,rel]
 | .cH,v=>by simp only [eA,rel]
theorem lC {q:Nat->Live} {g:Nat->Nat}:∀(x:List SV) (v:List Value),aK η q H (oB g x) v↔aK (λl=>η (g l)) (λl=>q (g l)) H x v
 | [],v=>by simp only [oB,aK]
 | x :: r,v=>by
  simp only [oB,aK]
  exact ⟨λ⟨u,us,h1,h2,h3⟩=>⟨u,us,h1,(xT x u).1 h2,(lC r us).1 h3⟩,λ⟨u,us,h1,h2,h3⟩=>⟨u,us,h1,(xT x u).2 h2,(lC r us).2 h3⟩⟩
end
theorem rO (g:Nat->Nat) (x:Slot):(nm g x).live=x.live:=by cases x<;>rfl
theorem Sq {q:Nat->Live} {g:Nat->Nat} {l:Nat} {x:Slot}:iO η q H w (g l) (nm g x)↔iO (λl=>η (g l)) (λl=>q (g l)) H w l x:=by
 cases x with
 | un=>exact vO
 | dead=>exact vO
 | fix e cs =>
  simp only [nm,iO]
  exact ⟨λ⟨bl,vs,h1,h2,h3⟩=>⟨bl,vs,h1,h2,(lC cs _).1 h3⟩,λ⟨bl,vs,h1,h2,h3⟩=>⟨bl,vs,h1,h2,(lC cs _).2 h3⟩⟩
 | dyn e sz c xs=>exact vO
 | e7 e c xs i ys =>
  simp only [nm,iO]
  exact ⟨λ⟨vals,h1,h2,⟨u,h3,h4⟩,h5⟩=>⟨vals,h1,h2,⟨u,h3,(lC ys _).1 h4⟩,h5⟩,λ⟨vals,h1,h2,⟨u,h3,h4⟩,h5⟩=>⟨vals,h1,h2,⟨u,h3,(lC ys _).2 h4⟩,h5⟩⟩
 | map k c m=>exact vO
 | iter k c m seen cur=>exact vO
 | dT ts ps ef body st =>
  simp only [nm,iO]
  exact ⟨λ⟨bl,fn,tmps,d,h1,h2,h3⟩=>⟨bl,fn,tmps,d,h1,h2,(lC ts _).1 h3⟩,λ⟨bl,fn,tmps,d,h1,h2,h3⟩=>⟨bl,fn,tmps,d,h1,h2,(lC ts _).2 h3⟩⟩
theorem iO.Jj {η η':Nat->Value} {q q':Nat->Live} {H:aV} {w:World} {l:Nat} {x:Slot} (h:iO η q H w l x) (ht:gD η η' q q') (he:x.live=.live->η' l=η l):iO η' q' H w l x:=by
 cases hx:x.live with
 | live=>exact h.kept ht (aV.le.refl _) (he hx) λ_ _=>rfl
 | _=>cases x<;>first|trivial|cases hx
structure oj:Type 1 where
 α:Type
 args:α->List SV
 io:α->List Slot
 pre:α->Prop
 β:Type
 post:α->β->Prop
 mv:List Nat
 res:α->β->SV
 lz:α->β->List Slot
def fh (j:Nat):List Nat->Bool
 | []=>false
 | x :: r=>Nat.beq j x||fh j r
theorem vP {j:Nat}:∀{l:List Nat},fh j l=true↔j∈l
 | []=>by simp [fh]
 | x :: r=>by simp [fh,zo,vP]
def mL (j:Nat):Slot->SV
 | .fix _ _=>.ptr j 0
 | .dyn ..=>.own j
 | .e7 ..=>.own j
 | .map ..=>.fy j
 | .iter ..=>.ptr j 0
 | .dT ..=>.fK j
 | _=>.any
def oZ (v:Value):Slot->Value
 | .dT ..=>match v with
  | .pointer (some a)=>.func (.yield a.block) #[] #[]
  | _=>.nilIface
 | _=>v
def pw (mv:List Nat):Nat->List Slot->List SV
 | _,[]=>[]
 | j,x :: r=>(match fh j mv with|true=>.any|false=>mL j x) :: pw mv (j+1) r
def wq (η:Nat->Value):Nat->List Slot->List Value
 | _,[]=>[]
 | j,x :: r=>oZ (η j) x :: wq η (j+1) r
theorem afT {q:Nat->Live} {l:Nat} {x:Slot} (h:iO η q H w l x) (hq:q l=x.live):rel η q H (mL l x) (oZ (η l) x):=by
 cases x with
 | un=>simp only [mL,rel]
 | dead=>simp only [mL,rel]
 | fix e cs =>
  obtain ⟨bl,vs,h1,h2,h3⟩:=h
  simp only [mL,rel,hq,Slot.live,oZ]
  exact ⟨bl,h1,h1⟩
 | dyn e sz c xs =>
  obtain ⟨vals,h1,_⟩:=h
  obtain ⟨ad,cp,h2,_⟩:=h1.slice
  simp only [mL,rel,hq,Slot.live,oZ]
  exact ⟨trivial,_,_,_,h2⟩
 | e7 e c xs i ys =>
  obtain ⟨vals,h1,_⟩:=h
  obtain ⟨ad,cp,h2,_⟩:=h1.slice
  simp only [mL,rel,hq,Slot.live,oZ]
  exact ⟨trivial,_,_,_,h2⟩
 | map k c m =>
  obtain ⟨r,es,clock,h1,_⟩:=h
  simp only [mL,rel,hq,Slot.live,oZ]
  exact ⟨trivial,_,h1⟩
 | iter k c m seen cur =>
  obtain ⟨bl,h1,_⟩:=h
  simp only [mL,rel,hq,Slot.live,oZ]
  exact ⟨bl,h1,h1⟩
 | dT ts ps ef body st =>
  obtain ⟨bl,fn,tmps,d,h1,_⟩:=h
  simp only [mL,rel,hq,Slot.live,oZ,h1]
  exact ⟨bl,rfl,rfl⟩
theorem afU {η':Nat->Value} {q q':Nat->Live} {H':aV} {w:World} {l:Nat} {x:Slot} (hx:x.live=.live) (h:iO η q H w l x) (hq:q' l=.live) (hr:rel η' q' H' (mL l x) (oZ (η l) x)):η' l=η l:=by
 cases x with
 | un=>cases hx
 | dead=>cases hx
 | fix e cs =>
  simp only [mL,rel,hq,oZ] at hr
  obtain ⟨bl,h1,h2⟩:=hr
  exact h1.trans h2.symm
 | dyn e sz c xs =>
  simp only [mL,rel,hq,oZ] at hr
  exact hr.1.symm
 | e7 e c xs i ys =>
  simp only [mL,rel,hq,oZ] at hr
  exact hr.1.symm
 | map k c m =>
  simp only [mL,rel,hq,oZ] at hr
  exact hr.1.symm
 | iter k c m seen cur =>
  simp only [mL,rel,hq,oZ] at hr
  obtain ⟨bl,h1,h2⟩:=hr
  exact h1.trans h2.symm
 | dT ts ps ef body st =>
  obtain ⟨bl,fn,tmps,d,h1,_⟩:=h
  simp only [mL,rel,hq,oZ,h1] at hr
  obtain ⟨jJ,h2,h3⟩:=hr
  simp at h3
  subst h3
  rw [h1,h2]
theorem UU {q:Nat->Live} (mv:List Nat):∀(b:List Slot) (j:Nat),(∀(l:Nat) (x:Slot),b[l]?=some x->iO η q H w (j+l) x/\q (j+l)=x.live)->aK η q H (pw mv j b) (wq η j b)
 | [],_,_=>by simp [pw,wq,aK]
 | x :: r,j,h=>by
  simp only [pw,wq,aK]
  refine ⟨_,_,rfl,?_,UU mv r (j+1) λl y hy=>?_⟩
  ·have:=h 0 x rfl
   simp only [p8] at this
   split
   ·simp only [rel]
   ·exact afT this.1 this.2
  ·have:=h (l+1) y (by simpa using hy)
   rwa [show j+1+l=j+(l+1) by omega]
theorem Ud (η:Nat->Value) (mv:List Nat):∀(b:List Slot) (j l:Nat) (x:Slot),b[l]?=some x->fh (j+l) mv=false->(pw mv j b)[l]?=some (mL (j+l) x)/\(wq η j b)[l]?=some (oZ (η (j+l)) x)
 | [],_,l,x,h,_=>by simp at h
 | y :: r,j,0,x,h,he=>by
  simp at h
  subst h
  simp only [p8] at he
  simp [pw,wq,he]
 | y :: r,j,l+1,x,h,he=>by
  have:=Ud η mv r (j+1) l x (by simpa using h) (by rwa [show j+1+l=j+(l+1) by omega])
  rw [show j+1+l=j+(l+1) by omega] at this
  simpa [pw,wq] using this
def sB:List Nat->St->St
 | [],s=>s
 | m :: r,s=>match s.b[m]? with
  | some x=>match x.live with
   | .live=>sB r (s.freeze m)
   | _=>sB r s
  | none=>sB r s
theorem Den.sB:∀(r:List Nat) {s:St} {H:aV},Den f s η H a w->∃H',Den f (sB r s) η H' a w
 | [],s,H,D=>⟨H,D⟩
 | m :: r,s,H,D=>by
  unfold Vc.sB
  split
  ·rename_i x hx
   split
   ·rename_i hl
    obtain ⟨H1,D1⟩:=D.freeze hx hl
    exact Den.sB r D1
   ·exact Den.sB r D
  ·exact Den.sB r D
def Y3 (Sp:oj) (a:Sp.α) (b:List Slot) (v:SV):Prop :=
 ∃(y:Sp.β) (fr:List Nat) (own:List (Place × Nat)),o8 (fit (pw Sp.mv 0 (Sp.io a)) (Sp.io a).length own (sB fr ⟨[v],b⟩)).t [Sp.res a y] /\
  lW (fit (pw Sp.mv 0 (Sp.io a)) (Sp.io a).length own (sB fr ⟨[v],b⟩)).b (Sp.lz a y)/\wx (λ_=>Sp.post a y)
structure ma (P:Unit->Program) (fid:FuncId) (Sp:oj):Prop where
 len:∀a y,(Sp.lz a y).length=(Sp.io a).length
 old:∀a (j:Nat) (z:Slot),(Sp.io a)[j]?=some z->fh j Sp.mv=false->z.live=.live
 nu:∀a y (j:Nat),(Sp.lz a y)[j]?≠some .un
 mv:Sp.mv.Nodup/\∀a,∀j∈Sp.mv,j < (Sp.io a).length
 run:∀a,Sp.pre a->iP (pw Sp.mv 0 (Sp.io a)) P fid (Sp.args a) (Sp.io a) (Y3 Sp a)
def ud (L:List Nat) (d j:Nat):Nat:=match L[j]? with
 | some l=>l
 | none=>d
def sf (g:Nat->Nat) (sk:Nat->Bool):Nat->List Slot->List Slot->List Slot
 | _,[],b=>b
 | j,x :: r,b=>sf g sk (j+1) r (match sk j with|true=>b|false=>b.set (g j) (nm g x))
def x1 (g:Nat->Nat):List Nat->List Slot->List Slot
 | [],b=>b
 | j :: r,b=>x1 g r (b.set (g j) .dead)
def CA (j:Nat):List Nat->Nat
 | []=>0
 | x :: r=>match Nat.beq j x with
  | true=>0
  | false=>CA j r+1
def Ap:List Slot->List Nat->Nat->List Nat->Bool
 | [],[],_,_=>true
 | x :: r,l :: ls,n,seen=>(match Nat.blt l n with
  | true=>!fh l seen
  | false=>match x with|.dead=>true|_=>false)&&Ap r ls n (l :: seen)
 | _,_,_,_=>false
def Aq (n:Nat) (L mv:List Nat) (j:Nat):Nat:=match fh j mv with
 | true=>n+CA j mv
 | false=>ud L (n+mv.length) j
def zQ (g:Nat->Nat) (bs:List Slot):List Nat->List Slot
 | []=>[]
 | j :: r=>(match bs[j]? with|some x=>nm g x|none=>.dead) :: zQ g bs r
def M5 (b:List Slot) (L mv:List Nat) (bs:List Slot):List Slot :=
 sf (Aq b.length L mv) (λj=>fh j mv) 0 bs (x1 (ud L b.length) mv b)++zQ (Aq b.length L mv) bs mv
theorem EC {j:Nat}:∀{l:List Nat},fh j l=true->l[CA j l]?=some j
 | [],h=>by simp [fh] at h
 | x :: r,h=>by
  simp only [fh,oO] at h
  unfold CA
  split
  ·rename_i e
   rw [l6 e];rfl
  ·rename_i e
   rw [e] at h
   simp only [ng,false_or] at h
   simpa using EC h
theorem ae0 {l:List Nat} (hn:l.Nodup) {i j:Nat} (h:l[i]?=some j):CA j l=i:=by
 have hm:fh j l=true:=vP.2 (cN h)
 have h1:=EC hm
 have l1:=(bh.1 h1)
 have l2:=(bh.1 h)
 obtain ⟨a1,a2⟩:=l1
 obtain ⟨b1,b2⟩:=l2
 exact (List.getElem_inj hn).1 (a2.trans b2.symm)
theorem K9 (g:Nat->Nat) (sk:Nat->Bool):∀(bs:List Slot) (j:Nat) (b:List Slot),(sf g sk j bs b).length=b.length
 | [],_,_=>rfl
 | x :: r,j,b=>by
  rw [sf,K9 g sk r]
  split<;>simp
theorem Rq (g:Nat->Nat):∀(mv:List Nat) (b:List Slot),(x1 g mv b).length=b.length
 | [],_=>rfl
 | j :: r,b=>by rw [x1,Rq g r];simp
theorem Rr (g:Nat->Nat) (bs:List Slot):∀mv:List Nat,(zQ g bs mv).length=mv.length
 | []=>rfl
 | j :: r=>by simp [zQ,Rr g bs r]
theorem Sr (g:Nat->Nat) (bs:List Slot):∀(mv:List Nat) (i j:Nat),mv[i]?=some j->(zQ g bs mv)[i]?=some (match bs[j]? with|some x=>nm g x|none=>.dead)
 | [],i,j,h=>by simp at h
 | k :: r,0,j,h=>by simp at h;subst h;rfl
 | k :: r,i+1,j,h=>by simpa [zQ] using Sr g bs r i j (by simpa using h)
theorem Lq (g:Nat->Nat):∀(mv:List Nat) (b:List Slot) (l:Nat),l < b.length->(x1 g mv b)[l]?=if mv.any (λj=>Nat.beq (g j) l) then some .dead else b[l]?
 | [],b,l,_=>by simp [x1]
 | j :: r,b,l,hl=>by
  rw [x1,Lq g r _ l (by simpa using hl)]
  by_cases h1:r.any (λj=>Nat.beq (g j) l)=true
  ·simp [h1]
  ·simp only [h1,List.any_cons]
   by_cases h2:g j=l
   ·subst h2;simp [hl]
   ·have:Nat.beq (g j) l=false:=by rw [<-Bool.not_eq_true,zo];exact h2
    simp [this,fU h2]
theorem Mm (g:Nat->Nat) (sk:Nat->Bool):∀(bs:List Slot) (j:Nat) (b:List Slot) (l:Nat),l < b.length ->
  (∀i i',i < bs.length->i' < bs.length->sk (j+i)=false->sk (j+i')=false->g (j+i)=l->g (j+i')=l->i=i') ->
  (sf g sk j bs b)[l]?=match (List.range bs.length).find? (λi=>!sk (j+i)&&Nat.beq (g (j+i)) l) with
   | some i=>(bs[i]?).map (nm g)
   | none=>b[l]?
 | [],j,b,l,_,_=>by simp [sf]
 | x :: r,j,b,l,hl,hd=>by
  have iJ:l < (match sk j with|true=>b|false=>b.set (g j) (nm g x)).length:=by split<;>simpa using hl
  have e:∀i,j+1+i=j+(i+1):=λi=>by omega
  rw [sf,Mm g sk r (j+1) _ l iJ (λi i' h1 h2 h3 h4 h5 h6=>by
   rw [e] at h3 h5
   rw [e] at h4 h6
   have:=hd (i+1) (i'+1) (by simpa using h1) (by simpa using h2) h3 h4 h5 h6
   omega)]
  rw [oN,List.range_succ_eq_map,List.find?_cons,List.find?_map]
  simp only [p8,e]
  by_cases h0:(!sk j&&Nat.beq (g j) l)=true
  ·simp only [h0]
   simp only [cu,nY,zo] at h0
   have NJ:(List.range r.length).find? (λi=>!sk (j+(i+1))&&Nat.beq (g (j+(i+1))) l)=none:=by
    rw [LR]
    intro i hi hc
    simp only [cu,nY,zo] at hc
    have:=hd 0 (i+1) (by simp) (by simpa using hi) (by simpa using h0.1) hc.1 (by simpa using h0.2) hc.2
    omega
   rw [NJ]
   simp only [h0.1]
   rw [<-h0.2,nW (by rw [h0.2];exact hl)]
   rfl
  ·have pH:(!sk j&&Nat.beq (g j) l)=false:=by cases hq:(!sk j&&Nat.beq (g j) l) with|false=>rfl|true=>exact absurd hq h0
   simp only [pH,HD]
   have hb:(match sk j with|true=>b|false=>b.set (g j) (nm g x))[l]?=b[l]?:=by
    cases hs:sk j with
    | true=>rfl
    | false =>
     rw [hs] at pH
     simp only [Bool.not_false,Ee] at pH
     exact fU (λe=>by rw [e] at pH;simp at pH)
   rw [hb]
   cases (List.range r.length).find? (λi=>!sk (j+(i+1))&&Nat.beq (g (j+(i+1))) l) with
   | none=>rfl
   | some i=>simp
theorem MJ:∀xs:List SV,o8 xs xs
 | []=>trivial
 | x :: r=>by
  simp only [o8]
  split
  ·exact MJ r
  ·exact ⟨.refl _,MJ r⟩
theorem Te:∀{io:List Slot} {L:List Nat} {n:Nat} {seen:List Nat},Ap io L n seen=true->L.length=io.length /\
  (∀(i:Nat) (x:Slot) (l:Nat),io[i]?=some x->L[i]?=some l->l < n\/x=.dead)/\(∀(i l:Nat),L[i]?=some l->l < n->l∉seen) /\
  (∀(i i' l:Nat),L[i]?=some l->L[i']?=some l->l < n->i=i')
 | [],[],n,seen,_=>by simp
 | [],_ :: _,_,_,h=>by simp [Ap] at h
 | _ :: _,[],_,_,h=>by simp [Ap] at h
 | x :: r,l :: ls,n,seen,h=>by
  simp only [Ap,cu] at h
  obtain ⟨h1,h2⟩:=h
  obtain ⟨g1,g2,g3,g4⟩:=Te h2
  have yM:(l < n->l∉seen)/\(l < n\/x=.dead):=by
   split at h1
   ·rename_i e
    have:l < n:=BO e
    simp only [nY,<-Bool.not_eq_true,vP] at h1
    exact ⟨λ_=>h1,.inl this⟩
   ·rename_i e
    have e:¬l < n:=λh=>by
     have:=tl h
     unfold Nat.blt at e
     rw [this] at e
     cases e
    refine ⟨λh=>absurd h e,.inr ?_⟩
    split at h1
    ·rfl
    ·cases h1
  refine ⟨by simp [g1],?_,?_,?_⟩
  ·intro i y l' hy hl
   cases i with
   | zero=>simp at hy hl;subst hy hl;exact yM.2
   | succ i=>exact g2 i y l' (by simpa using hy) (by simpa using hl)
  ·intro i l' hl hn
   cases i with
   | zero=>simp at hl;subst hl;exact yM.1 hn
   | succ i=>exact λhm=>g3 i l' (by simpa using hl) hn (rR _ hm)
  ·intro i i' l' hi j6 hn
   cases i with
   | zero =>
    simp at hi;subst hi
    cases i' with
    | zero=>rfl
    | succ i'=>exact absurd (LS) (g3 i' l (by simpa using j6) hn)
   | succ i =>
    cases i' with
    | zero=>simp at j6;subst j6;exact absurd (LS) (g3 i l (by simpa using hi) hn)
    | succ i'=>rw [g4 i i' l' (by simpa using hi) (by simpa using j6) hn]
theorem UW (mv:List Nat):∀(b:List Slot) (j m:Nat),j+b.length<=m->lg (Nat.ble m) (pw mv j b)=false
 | [],_,_,_=>rfl
 | x :: r,j,m,h=>by
  simp only [pw,lg,UW mv r (j+1) m (by simp at h;omega),Bool.or_false]
  have hj:Nat.ble m j=false:=by
   cases e:Nat.ble m j with
   | false=>rfl
   | true=>have:=BO e;simp at h;omega
  split
  ·rfl
  ·cases x<;>simp [mL,iF,hj]
theorem UX {L:List Nat} {d j l:Nat} (h:L[j]?=some l):ud L d j=l:=by unfold ud;rw [h]
theorem UY {L:List Nat} {d j:Nat} (h:L[j]?=none):ud L d j=d:=by unfold ud;rw [h]
theorem iP.io {P:Unit->Program} {fid:FuncId} {Sp:oj} (I:ma P fid Sp) {S args:List SV} {b:List Slot} {k:List Slot->SV->Prop} (a:Sp.α) (L:List Nat)
  (jf:Ap (Sp.io a) L b.length []=true) (lH:cM args (oB (ud L b.length) (Sp.args a))) (PM:lW b (sf (ud L b.length) (λ_=>false) 0 (Sp.io a) b))
  (dU:wx λ_=>Sp.pre a) (hk:∀y,Hyp (λ_=>Sp.post a y)->k (M5 b L Sp.mv (Sp.lz a y)) (eA (Aq b.length L Sp.mv) (Sp.res a y))):iP S P fid args b k:=by
 refine ⟨λf η H ac w hS hd D=>?_⟩
 obtain ⟨hlen,aP,_,Jh⟩:=Te jf
 let io:=Sp.io a
 let n:=b.length
 let σ:=ud L n
 let b1:=sf σ (λ_=>false) 0 io b
 have pG:b1.length=n:=K9 _ _ _ _ _
 have D1:Den f ⟨args,b1⟩ η H ac w:=D.weaken ⟨MJ _,PM⟩
 have σL:∀i,i < io.length->∃l,L[i]?=some l/\σ i=l:=λi hi=>⟨_,dE (by rw [hlen];exact hi),UX (dE (by rw [hlen];exact hi))⟩
 have aiR:∀i,io.length<=i->σ i=n:=λi hi=>UY (l7 (by rw [hlen];exact hi))
 have CD:∀i i' l,i < io.length->i' < io.length->σ i=l->σ i'=l->l < n->i=i':=by
  intro i i' l h1 h2 h3 h4 h5
  obtain ⟨l1,a1,a2⟩:=σL i h1
  obtain ⟨l2,c1,c2⟩:=σL i' h2
  exact Jh i i' l (by rw [a1,<-a2,h3]) (by rw [c1,<-c2,h4]) h5
 have C5:∀i x,io[i]?=some x->σ i < n\/x=.dead:=by
  intro i x hx
  obtain ⟨l,a1,a2⟩:=σL i (bh.1 hx).1
  rw [a2];exact aP i x l hx a1
 have XJ:∀l,l < n->b1[l]?=match (List.range io.length).find? (λi=>Nat.beq (σ i) l) with
   | some i=>(io[i]?).map (nm σ)
   | none=>b[l]?:=by
  intro l hl
  have:=Mm σ (λ_=>false) io 0 b l hl (λi i' h1 h2 _ _ h3 h4=>by
   simp only [ni] at h3 h4
   exact CD i i' l h1 h2 h3 h4 hl)
  simpa using this
 have find:∀i l,i < io.length->σ i=l->l < n->(List.range io.length).find? (λi=>Nat.beq (σ i) l)=some i:=by
  intro i l h1 h2 h3
  cases hf:(List.range io.length).find? (λi=>Nat.beq (σ i) l) with
  | none =>
   rw [LR] at hf
   exact absurd (by simpa using h2) (hf i (by simpa using h1))
  | some i' =>
   have g1:=HI hf
   have g2:=Hz hf
   simp at g1 g2
   rw [CD i i' l h1 g2 h2 g1 h3]
 have Ge:∀i x,io[i]?=some x->σ i < n->b1[σ i]?=some (nm σ x):=by
  intro i x hx hl
  rw [XJ _ hl,find i _ (bh.1 hx).1 rfl hl]
  simp only [hx]
  rfl
 have q1:∀i,Live.un=aN b1 (σ i)\/aN io i=aN b1 (σ i)\/aN io i=.dead:=by
  intro i
  cases hx:io[i]? with
  | none =>
   left
   rw [aiR i (by simpa using hx)]
   simp [aN,pG]
  | some x =>
   rcases C5 i x hx with h|h
   ·right;left
    rw [bR (Ge i x hx h),bR hx,rO]
   ·right;right
    rw [bR hx,h];rfl
 have E6:∀i,aN io i=.live->σ i < n/\i < io.length:=by
  intro i h
  obtain ⟨x,hx,hl⟩:=qV h
  rcases C5 i x hx with h|h
  ·exact ⟨h,(bh.1 hx).1⟩
  ·rw [h] at hl;cases hl
 let η':Nat->Value:=λi=>η (σ i)
 have T1:gD η' η' (λi=>aN b1 (σ i)) (aN io):=by
  intro i
  rcases q1 i with h|h|h
  ·show match aN b1 (σ i) with|.un=>True|.dead=>_|.live=>_
   rw [<-h];trivial
  ·show match aN b1 (σ i) with|.un=>True|.dead=>_|.live=>_
   rw [<-h]
   cases hq:aN io i<;>simp
  ·show match aN b1 (σ i) with|.un=>True|.dead=>_|.live=>_
   cases hq:aN b1 (σ i)<;>simp [h]
 have Ov:∀(i:Nat) (x:Slot),io[i]?=some x->iO η' (aN io) H w i x:=by
  intro i x hx
  rcases C5 i x hx with h|h
  ·exact (Sq.1 (D1.sl _ _ (Ge i x hx h))).Jj T1 λ_=>rfl
  ·rw [h];trivial
 let F':aV:=λbl=>@ite _ (∃l,aN b1 l=.live/\(∀i,i < io.length->σ i≠l)/\bS (η l)=some bl) (Classical.propDecidable _) (w.heap[bl]?) (f.F bl)
 have NS:∀bl o,f.F bl=some o->F' bl=some o:=by
  intro bl o h
  simp only [F']
  split
  ·rename_i hc
   obtain ⟨l,h1,_,h2⟩:=hc
   rw [(D1.dh l bl h1 h2).2] at h
   cases h
  ·exact h
 have ahx:∀l bl,aN b1 l=.live->(∀i,i < io.length->σ i≠l)->bS (η l)=some bl->F' bl=w.heap[bl]?:=by
  intro l bl h1 h2 h3
  simp only [F']
  rw [if_pos ⟨l,h1,h2,h3⟩]
 have aiS:∀i bl,aN io i=.live->bS (η' i)=some bl->F' bl=f.F bl:=by
  intro i bl h1 h2
  simp only [F']
  rw [if_neg]
  rintro ⟨l,g1,g2,g3⟩
  obtain ⟨h3,h4⟩:=E6 i h1
  have hq:aN b1 (σ i)=.live:=by
   rcases q1 i with h|h|h
   ·obtain ⟨x,hx,hl⟩:=qV h1
    rw [bR (Ge i x hx h3),rO,hl]
   ·rw [<-h];exact h1
   ·rw [h1] at h;cases h
  exact g2 i h4 (D1.dj (σ i) l bl hq g1 h2 g3)
 have rp:∀i,aN io i=.live->aN b1 (σ i)=.live:=by
  intro i h1
  obtain ⟨h3,h4⟩:=E6 i h1
  obtain ⟨x,hx,hl⟩:=qV h1
  rw [bR (Ge i x hx h3),rO,hl]
 let f':Fr:={ F:=F',H0:=H,w0:=w,sS:=pw Sp.mv 0 io,sV:=wq η' 0 io,dS:=[] }
 have afV:aK η' (aN io) H (Sp.args a) ac.tmps.toList:=fM T1 (aV.le.refl H) _ _ ((lC _ _).1 (iw lH D1.t))
 have D':Den f' ⟨Sp.args a,io⟩ η' H ⟨ac.tmps,[]⟩ w:={
  t:=afV
  sv:=UU Sp.mv io 0 λl x hx=>by
   rw [ni]
   exact ⟨Ov l x hx,bR hx⟩
  d:=rfl
  h0:=aV.le.refl H
  hw:=D1.hw
  fw:=λbl o h=>by
   simp only [f',F'] at h
   split at h
   ·exact h
   ·exact D1.fw bl o h
  hf:=λbl h=>.inl h
  sl:=λl x hx=>Ov l x hx
  dj:=λl l' bl h1 h2 h3 h4=>by
   have:=D1.dj (σ l) (σ l') bl (rp l h1) (rp l' h2) h3 h4
   exact CD l l' _ (E6 l h1).2 (E6 l' h2).2 rfl this.symm (E6 l h1).1
  dh:=λl bl h1 h2=>⟨(D1.dh (σ l) bl (rp l h1) h2).1,(aiS l bl h1 h2).trans (D1.dh (σ l) bl (rp l h1) h2).2⟩
  os:=rfl
  tape:=rfl
  out:=rfl }
 refine ((I.run a dU.out).out f' η' H ⟨ac.tmps,[]⟩ w rfl rfl D').mono ?_
 rintro e w' ⟨v,b2,η2,H2,xv,rfl,⟨y,fr,own,k1,k2,k3⟩,D2,r2⟩
 have D2v:Den f' ⟨[xv],b2⟩ η2 H2 ⟨#[v],[]⟩ w':={ D2 with t:=by simp only [aK];exact ⟨v,[],rfl,r2,rfl⟩ }
 obtain ⟨H3,D3⟩:=Den.sB fr D2v
 obtain ⟨η3,D4⟩:=D3.sA (S:=pw Sp.mv 0 io) rfl own
 have Ow:lg (Nat.ble io.length) f'.sS=false:=UW Sp.mv io 0 io.length (by omega)
 have D5:Den f' ⟨[Sp.res a y],Sp.lz a y⟩ η3 H3 ⟨#[v],[]⟩ w':=(D4.cut io.length Ow).weaken ⟨k1,k2⟩
 let bs:=Sp.lz a y
 have jk:bs.length=io.length:=I.len a y
 let g:=Aq n L Sp.mv
 have Fu:∀(i:Nat) (x:Slot),bs[i]?=some x->fh i Sp.mv=false->∃z,io[i]?=some z/\z.live=.live:=λi x hx hm =>
  ⟨_,dE (by rw [<-jk];exact (bh.1 hx).1),I.old a i _ (dE (by rw [<-jk];exact (bh.1 hx).1)) hm⟩
 have gN:∀i,fh i Sp.mv=true->g i=n+CA i Sp.mv:=λi h=>by simp only [g,Aq,h]
 have gO:∀i,fh i Sp.mv=false->i < io.length->g i=σ i:=λi h hi=>by
  obtain ⟨l,a1,a2⟩:=σL i hi
  simp only [g,Aq,h]
  rw [a2];exact UX a1
 have gX:∀i,fh i Sp.mv=false->io.length<=i->g i=n+Sp.mv.length:=λi h hi=>by
  simp only [g,Aq,h]
  exact UY (l7 (by rw [hlen];exact hi))
 have IZ:∀i,fh i Sp.mv=true->i < io.length:=λi h=>I.mv.2 a i (vP.1 h)
 let bk:=x1 σ Sp.mv b
 have Ka:bk.length=n:=Rq _ _ _
 let bn:=M5 b L Sp.mv bs
 have PN:bn=sf g (λj=>fh j Sp.mv) 0 bs bk++zQ g bs Sp.mv:=rfl
 have Jp:(sf g (λj=>fh j Sp.mv) 0 bs bk).length=n:=by rw [K9,Ka]
 have XK:∀l,l < n->bn[l]?=match (List.range bs.length).find? (λi=>!fh i Sp.mv&&Nat.beq (g i) l) with
   | some i=>(bs[i]?).map (nm g)
   | none=>bk[l]?:=by
  intro l hl
  rw [PN,iY (by rw [Jp];exact hl)]
  have:=Mm g (λj=>fh j Sp.mv) bs 0 bk l (by rw [Ka];exact hl) (λi i' h1 h2 h3 h4 h5 h6=>by
   simp only [ni] at h3 h4 h5 h6
   rw [jk] at h1 h2
   rw [gO i h3 h1] at h5
   rw [gO i' h4 h2] at h6
   exact CD i i' l h1 h2 h5 h6 hl)
  simpa using this
 have Fv:∀i,i < io.length->σ i < n->fh i Sp.mv=false->bn[σ i]?=(bs[i]?).map (nm g):=by
  intro i hi hl hm
  rw [XK _ hl]
  cases hf:(List.range bs.length).find? (λj=>!fh j Sp.mv&&Nat.beq (g j) (σ i)) with
  | none =>
   rw [LR] at hf
   have:=hf i (by rw [mB,jk];exact hi)
   rw [hm,gO i hm hi] at this
   simp at this
  | some i' =>
   have g1:=HI hf
   have g2:=Hz hf
   simp only [cu,nY,zo,mB,jk] at g1 g2
   have e:=g1.2
   rw [gO i' g1.1 g2] at e
   rw [CD i' i (σ i) g2 hi e rfl hl]
 have WO:∀l,l < n->(∀i,i < io.length->fh i Sp.mv=false->σ i≠l)->bn[l]?=bk[l]?:=by
  intro l hl di
  rw [XK _ hl]
  cases hf:(List.range bs.length).find? (λj=>!fh j Sp.mv&&Nat.beq (g j) l) with
  | none=>rfl
  | some i' =>
   have g1:=HI hf
   have g2:=Hz hf
   simp only [cu,nY,zo,mB,jk] at g1 g2
   have e:=g1.2
   rw [gO i' g1.1 g2] at e
   exact absurd e (di i' g2 g1.1)
 have Ox:∀i,σ i < n->fh i Sp.mv=true->bn[σ i]?=some .dead:=by
  intro i hl hm
  rw [WO _ hl,Lq σ Sp.mv b _ hl,if_pos]
  ·rw [HG];exact ⟨i,vP.1 hm,by simp⟩
  ·intro i' h1 h2 h3
   rw [CD i' i _ h1 (IZ i hm) h3 rfl hl,hm] at h2
   cases h2
 have Oy:∀l,l < n->(∀i,i < io.length->σ i≠l)->bn[l]?=b1[l]?:=by
  intro l hl di
  rw [WO l hl λi h1 _=>di i h1,Lq σ Sp.mv b _ hl,if_neg,XJ l hl]
  ·cases hf:(List.range io.length).find? (λi=>Nat.beq (σ i) l) with
   | none=>rfl
   | some i' =>
    have g1:=HI hf
    have g2:=Hz hf
    simp at g1 g2
    exact absurd g1 (di i' g2)
  ·intro h
   rw [HG] at h
   obtain ⟨i,h1,h2⟩:=h
   exact di i (IZ i (vP.2 h1)) (l6 h2)
 have Np:∀i j,Sp.mv[i]?=some j->bn[n+i]?=(bs[j]?).map (nm g):=by
  intro i j h
  have hj:j < bs.length:=by rw [jk];exact IZ j (vP.2 (cN h))
  rw [PN,oL (by rw [Jp];omega),Jp,LB,Sr g bs Sp.mv i j h,dE hj]
  rfl
 have aiT:bn.length=n+Sp.mv.length:=by rw [PN,fS,Jp,Rr]
 have atG:∀i x,bs[i]?=some x->x.live=.live->bn[g i]?=some (nm g x):=by
  intro i x hx hl
  have hi:i < io.length:=by rw [<-jk];exact (bh.1 hx).1
  cases hm:fh i Sp.mv with
  | true=>rw [gN i hm,Np _ _ (EC hm),hx];rfl
  | false =>
   obtain ⟨z,hz,iH⟩:=Fu i x hx hm
   have:σ i < n:=by
    rcases C5 i z hz with h|h
    ·exact h
    ·rw [h] at iH;cases iH
   rw [gO i hm hi,Fv i hi this hm,hx];rfl
 let ηn:Nat->Value:=λl=>if l < n then η l else match Sp.mv[l - n]? with
  | some j=>η3 j
  | none=>.nilIface
 have aiU:∀i x,bs[i]?=some x->x.live=.live->fh i Sp.mv=false->η3 i=η' i:=by
  intro i x hx hl hm
  obtain ⟨z,hz,iH⟩:=Fu i x hx hm
  obtain ⟨t1,t2⟩:=Ud η' Sp.mv io 0 i z hz (by rw [ni];exact hm)
  rw [ni] at t1 t2
  obtain ⟨u,hu,hr⟩:=rW D5.sv i _ t1
  have:(wq η' 0 io)[i]?=some u:=hu
  rw [t2] at this
  simp at this
  subst this
  exact afU iH (Ov i z hz) (by rw [bR hx];exact hl) hr
 have ηG:∀i x,bs[i]?=some x->x.live=.live->ηn (g i)=η3 i:=by
  intro i x hx hl
  have hi:i < io.length:=by rw [<-jk];exact (bh.1 hx).1
  cases hm:fh i Sp.mv with
  | true =>
   rw [gN i hm]
   simp only [ηn]
   rw [if_neg (by omega),LB,EC hm]
  | false =>
   obtain ⟨z,hz,iH⟩:=Fu i x hx hm
   have aP:σ i < n:=by
    rcases C5 i z hz with h|h
    ·exact h
    ·rw [h] at iH;cases iH
   rw [gO i hm hi]
   simp only [ηn]
   rw [if_pos aP]
   exact (aiU i x hx hl hm).symm
 have TG:gD η3 (λi=>ηn (g i)) (aN bs) (λi=>aN bn (g i)):=by
  intro i
  cases hq:aN bs i with
  | un=>trivial
  | live =>
   obtain ⟨x,hx,hl⟩:=qV hq
   left
   exact ⟨by show aN bn (g i)=.live;rw [bR (atG i x hx hl),rO,hl],ηG i x hx hl⟩
  | dead =>
   show aN bn (g i)=.dead
   have hx:∃x,bs[i]?=some x/\x.live=.dead:=by
    unfold aN at hq
    split at hq
    ·exact ⟨_,by assumption,hq⟩
    ·cases hq
   obtain ⟨x,hx,hl⟩:=hx
   have hi:i < io.length:=by rw [<-jk];exact (bh.1 hx).1
   cases hm:fh i Sp.mv with
   | true=>rw [gN i hm,bR (by rw [Np _ _ (EC hm),hx];rfl),rO,hl]
   | false =>
    rw [gO i hm hi]
    by_cases aP:σ i < n
    ·rw [bR (by rw [Fv i hi aP hm,hx];rfl),rO,hl]
    ·obtain ⟨z,hz,iH⟩:=Fu i x hx hm
     rcases C5 i z hz with h|h
     ·exact absurd h aP
     ·rw [h] at iH;cases iH
 have TB:gD η ηn (aN b1) (aN bn):=by
  intro l
  cases hq:aN b1 l with
  | un=>trivial
  | live =>
   obtain ⟨x,hx,hl⟩:=qV hq
   have jM:l < n:=by rw [<-pG];exact (bh.1 hx).1
   by_cases hc:∃i,i < io.length/\σ i=l
   ·obtain ⟨i,hi,rfl⟩:=hc
    cases hm:fh i Sp.mv with
    | true=>right;rw [bR (Ox i jM hm)];rfl
    | false =>
     have rf:bs[i]?=some bs[i]:=dE (by rw [jk];exact hi)
     have e:=Fv i hi jM hm
     rw [rf] at e
     cases hz:(bs[i]).live with
     | un =>
      exfalso
      have:bs[i]=.un:=by cases hy:bs[i]<;>rw [hy] at hz<;>first|rfl|cases hz
      exact I.nu a y i (by rw [<-this];exact rf)
     | dead=>right;rw [bR e,rO,hz]
     | live =>
      left
      refine ⟨by rw [bR e,rO,hz],?_⟩
      simp only [ηn];rw [if_pos jM]
   ·left
    refine ⟨by rw [bR ((Oy l jM λi hi e=>hc ⟨i,hi,e⟩).trans hx),hl],?_⟩
    simp only [ηn];rw [if_pos jM]
  | dead =>
   show aN bn l=.dead
   have hx:∃x,b1[l]?=some x/\x.live=.dead:=by
    unfold aN at hq
    split at hq
    ·exact ⟨_,by assumption,hq⟩
    ·cases hq
   obtain ⟨x,hx,hl⟩:=hx
   have jM:l < n:=by rw [<-pG];exact (bh.1 hx).1
   by_cases hc:∃i,i < io.length/\σ i=l
   ·obtain ⟨i,hi,rfl⟩:=hc
    cases hm:fh i Sp.mv with
    | true=>rw [bR (Ox i jM hm)];rfl
    | false =>
     have rf:bs[i]?=some bs[i]:=dE (by rw [jk];exact hi)
     have e:=Fv i hi jM hm
     rw [rf] at e
     rw [bR e,rO]
     cases hz:(bs[i]).live with
     | un =>
      exfalso
      have:bs[i]=.un:=by cases hy:bs[i]<;>rw [hy] at hz<;>first|rfl|cases hz
      exact I.nu a y i (by rw [<-this];exact rf)
     | dead=>rfl
     | live =>
      exfalso
      obtain ⟨z,PO,iH⟩:=Fu i _ rf hm
      have:=Ge i z PO jM
      rw [hx] at this
      simp at this
      rw [this,rO,iH] at hl
      cases hl
   ·rw [bR ((Oy l jM λi hi e=>hc ⟨i,hi,e⟩).trans hx),hl]
 have cls:∀l x,bn[l]?=some x->x.live=.live->(∃i z,bs[i]?=some z/\z.live=.live/\g i=l/\x=nm g z)\/(l < n/\b1[l]?=some x/\∀i,i < io.length->σ i≠l):=by
  intro l x hx hl
  by_cases jM:l < n
  ·by_cases hc:∃i,i < io.length/\σ i=l
   ·obtain ⟨i,hi,rfl⟩:=hc
    cases hm:fh i Sp.mv with
    | true =>
     rw [Ox i jM hm] at hx
     simp at hx;subst hx;cases hl
    | false =>
     left
     have rf:bs[i]?=some bs[i]:=dE (by rw [jk];exact hi)
     rw [Fv i hi jM hm,rf] at hx
     simp at hx;subst hx
     exact ⟨i,_,rf,by rw [rO] at hl;exact hl,gO i hm hi,rfl⟩
   ·right
    have di:∀i,i < io.length->σ i≠l:=λi hi e=>hc ⟨i,hi,e⟩
    exact ⟨jM,by rw [<-Oy l jM di];exact hx,di⟩
  ·left
   have kC:=(bh.1 hx).1
   rw [aiT] at kC
   obtain ⟨j,hj⟩:∃j,Sp.mv[l - n]?=some j:=⟨_,dE (by omega)⟩
   have e:=Np _ _ hj
   rw [show n+(l - n)=l by omega,hx] at e
   have Gf:fh j Sp.mv=true:=vP.2 (cN hj)
   have e8:j < bs.length:=by rw [jk];exact IZ j Gf
   have Y4:bs[j]?=some bs[j]:=dE e8
   rw [Y4] at e
   simp at e;subst e
   refine ⟨j,_,Y4,by rw [rO] at hl;exact hl,?_,rfl⟩
   rw [gN j Gf,ae0 I.mv.1 hj];omega
 have Fw:∀i z,bs[i]?=some z->z.live=.live->∀bl,bS (ηn (g i))=some bl->bS (η3 i)=some bl:=λi z h1 h2 bl h=>by rw [ηG i z h1 h2] at h;exact h
 have Fx:∀l x,l < n->b1[l]?=some x->x.live=.live->∀bl,bS (ηn l)=some bl->bS (η l)=some bl:=λl x h1 h2 h3 bl h=>by
  simp only [ηn] at h;rw [if_pos h1] at h;exact h
 have others:∀l bl,aN b1 l=.live->(∀i,i < io.length->σ i≠l)->bS (η l)=some bl->∃o,w.heap[bl]?=some o/\F' bl=some o/\w'.heap[bl]?=some o:=by
  intro l bl h1 h2 h3
  have hb:=D1.zC h1 h3
  have e:=ahx l bl h1 h2 h3
  rw [tk hb] at e
  exact ⟨_,tk hb,e,D5.fw bl _ e⟩
 have Dn:Den f ⟨[],bn⟩ ηn H3 ⟨#[],[]⟩ w':={
  t:=by simp [aK]
  sv:=fM TB D5.h0 _ _ D1.sv
  d:=by rw [hd];rfl
  h0:=D1.h0.trans D5.h0
  hw:=D5.hw
  fw:=λbl o h=>D5.fw bl o (NS bl o h)
  hf:=λbl h=>by
   rcases D5.hf bl h with h1|h1
   ·exact D1.hf bl h1
   ·right
    cases hF:f.F bl with
    | none=>rfl
    | some o=>have h1:F' bl=none:=h1;rw [NS bl o hF] at h1;cases h1
  sl:=λl x hx=>by
   cases hl:x.live with
   | live =>
    rcases cls l x hx hl with ⟨i,z,hz,iH,rfl,rfl⟩|⟨jM,vk,di⟩
    ·refine Sq.2 ?_
     exact (D5.sl i z hz).Jj TG λ_=>ηG i z hz iH
    ·refine (D1.sl l x vk).kept TB D5.h0 (by simp only [ηn];rw [if_pos jM]) λbl hb=>?_
     obtain ⟨o,h1,_,h2⟩:=others l bl (by rw [bR vk];exact hl) di hb
     rw [h1,h2]
   | un=>cases x<;>first|trivial|cases hl
   | dead=>cases x<;>first|trivial|cases hl
  dj:=λl l' bl h1 h2 h3 h4=>by
   obtain ⟨x,hx,hl⟩:=qV h1
   obtain ⟨x',jy,iJ⟩:=qV h2
   rcases cls l x hx hl with ⟨i,z,hz,iH,rfl,rfl⟩|⟨jM,vk,di⟩<;>rcases cls l' x' jy iJ with ⟨i',z',AJ,Jq,rfl,rfl⟩|⟨XL,Jr,aiV⟩
   ·rw [D5.dj i i' bl (by rw [bR hz];exact iH) (by rw [bR AJ];exact Jq) (Fw i z hz iH bl h3) (Fw i' z' AJ Jq bl h4)]
   ·exfalso
    obtain ⟨o,_,e,_⟩:=others l' bl (by rw [bR Jr];exact iJ) aiV (Fx l' x' XL Jr iJ bl h4)
    have:=(D5.dh i bl (by rw [bR hz];exact iH) (Fw i z hz iH bl h3)).2
    have:F' bl=none:=this
    rw [e] at this;cases this
   ·exfalso
    obtain ⟨o,_,e,_⟩:=others l bl (by rw [bR vk];exact hl) di (Fx l x jM vk hl bl h3)
    have:=(D5.dh i' bl (by rw [bR AJ];exact Jq) (Fw i' z' AJ Jq bl h4)).2
    have:F' bl=none:=this
    rw [e] at this;cases this
   ·exact D1.dj l l' bl (by rw [bR vk];exact hl) (by rw [bR Jr];exact iJ) (Fx l x jM vk hl bl h3) (Fx l' x' XL Jr iJ bl h4)
  dh:=λl bl h1 h2=>by
   obtain ⟨x,hx,hl⟩:=qV h1
   rcases cls l x hx hl with ⟨i,z,hz,iH,rfl,rfl⟩|⟨jM,vk,di⟩
   ·obtain ⟨e1,e2⟩:=D5.dh i bl (by rw [bR hz];exact iH) (Fw i z hz iH bl h2)
    refine ⟨e1,?_⟩
    cases hF:f.F bl with
    | none=>rfl
    | some o=>have e2:F' bl=none:=e2;rw [NS bl o hF] at e2;cases e2
   ·have hb:=Fx l x jM vk hl bl h2
    have hq:aN b1 l=.live:=by rw [bR vk];exact hl
    obtain ⟨o,_,e,_⟩:=others l bl hq di hb
    refine ⟨?_,(D1.dh l bl hq hb).2⟩
    cases hH:H3 bl with
    | none=>rfl
    | some o' =>
     rcases D5.hf bl (by rw [hH];simp) with h|h
     ·exact absurd (D1.dh l bl hq hb).1 h
     ·have h:F' bl=none:=h
      rw [e] at h;cases h
  os:=D5.os.trans D1.os
  tape:=D5.tape.trans D1.tape
  out:=D5.out.trans D1.out }
 have CW:rel ηn (aN bn) H3 (eA g (Sp.res a y)) v:=by
  have:=D5.t
  simp only [aK] at this
  obtain ⟨u,us,e,h1,rfl⟩:=this
  simp at e;subst e
  exact (xT _ _).2 (rV TG (aV.le.refl _) _ _ h1)
 exact ⟨v,bn,ηn,H3,_,rfl,hk y ⟨k3.out⟩,Dn,CW⟩
def WQ (x:Slot):Bool:=match x.live with
 | .live=>true
 | _=>false
def Ar (mv:List Nat):Nat->List Slot->Bool
 | _,[]=>true
 | j,x :: r=>(fh j mv||WQ x)&&Ar mv (j+1) r
def C6:List Slot->Bool
 | []=>true
 | .un :: _=>false
 | _ :: r=>C6 r
def C7 (n:Nat):List Nat->Bool
 | []=>true
 | j :: r=>Nat.blt j n&&!fh j r&&C7 n r
def Kb (mv:List Nat) (io lz:List Slot):Bool:=Nat.beq lz.length io.length&&Ar mv 0 io&&C6 lz&&C7 io.length mv
theorem UZ {mv:List Nat}:∀{io:List Slot} {j0:Nat},Ar mv j0 io=true->∀(j:Nat) (z:Slot),io[j]?=some z->fh (j0+j) mv=false->z.live=.live
 | [],_,_,j,z,h,_=>by simp at h
 | x :: r,j0,h,0,z,hz,he=>by
  simp at hz;subst hz
  simp only [Ar,cu,oO] at h
  simp only [p8] at he
  rw [he] at h
  have h1:=h.1
  simp only [ng,false_or] at h1
  unfold WQ at h1
  split at h1
  ·assumption
  ·cases h1
 | x :: r,j0,h,j+1,z,hz,he=>by
  simp only [Ar,cu] at h
  exact UZ h.2 j z (by simpa using hz) (by rw [show j0+1+j=j0+(j+1) by omega];exact he)
theorem VH:∀{io:List Slot},C6 io=true->∀j:Nat,io[j]?≠some .un
 | [],_,j=>by simp
 | x :: r,h,0=>by
  intro e
  simp at e;subst e
  simp [C6] at h
 | x :: r,h,j+1=>by
  have:C6 r=true:=by cases x<;>first|exact h|simp [C6] at h
  simpa using VH this j
theorem VI {n:Nat}:∀{mv:List Nat},C7 n mv=true->mv.Nodup/\∀j∈mv,j < n
 | [],_=>by simp
 | j :: r,h=>by
  simp only [C7,cu,nY] at h
  obtain ⟨⟨h1,h2⟩,h3⟩:=h
  obtain ⟨g1,g2⟩:=VI h3
  refine ⟨zj.2 ⟨λhm=>?_,g1⟩,λi hi=>?_⟩
  ·rw [vP.2 hm] at h2;cases h2
  ·rcases cx.1 hi with rfl|hi
   ·exact BO h1
   ·exact g2 i hi
structure XM (PP:Unit->Program) (X:Ctx) (lv:Nat) (fn:Func) (Sp:oj) (a:Sp.α):Prop where
 out:match fn.body with
  | some c=>ua (pw Sp.mv 0 (Sp.io a)) false PP X lv c (start (Sp.args a) fn.ntmps (Sp.io a)) (wz X fn.results.toList (Y3 Sp a))
  | none=>False
theorem adO {PP:Unit->Program} {X:Ctx} (C:X.Ok (PP ())) (IL:lI X) {lv:Nat} {fid:FuncId} {fn:Func} (F:kJ (PP ()) fid fn) (j7:l8 fn=true) {Sp:oj}
  (hw:∀a y,Kb Sp.mv (Sp.io a) (Sp.lz a y)=true) (hm:∀a,Ar Sp.mv 0 (Sp.io a)=true/\C7 (Sp.io a).length Sp.mv=true) (PQ:Sp.mv.Nodup) (h0:∀a,Sp.pre a->XM PP X lv fn Sp a):ma PP fid Sp:=by
 obtain ⟨c,hb⟩:=qP.1 F.body
 have hc:codeOk c=true:=by unfold l8 at j7;rw [hb] at j7;exact j7
 refine ⟨λa y=>?_,λa j z hz he=>?_,λa y j=>?_,⟨PQ,λa=>(VI (hm a).2).2⟩,λa ha=>⟨λf η H ac w hS hd D=>?_⟩⟩
 ·have:=hw a y
  simp only [Kb,cu] at this
  exact l6 this.1.1.1
 ·exact UZ (hm a).1 j z hz (by rw [ni];exact he)
 ·have:=hw a y
  simp only [Kb,cu] at this
  exact VH this.1.2 j
 ·have h:=(h0 a ha).out
  rw [hb] at h
  exact BP C F hb (xA C IL hc h) f η H ac w hS hd D
end
structure oV:Type 1 where
 α:Type
 args:α->List SV
 pre:α->Prop
 β:Type
 post:α->β->Prop
 res:α->β->SV
structure rq (P:Unit->Program) (f:FuncId) (S:oV):Prop where
 lf:∀a,bX (S.args a)
 lr:∀a y,LF (S.res a y)
 run:∀a,S.pre a->∀(H F:aV) (w:World) (vals:List Value),H.gV w->F.gV w->cQ H (S.args a) vals ->
  Calls (P ()) f vals.toArray w λe w'=>∃y v H',S.post a y/\e=.returned v/\H.le H'/\H'.gV w'/\F.gV w' /\
   (∀b,H' b≠none->H b≠none\/F b=none)/\ox H' (S.res a y) v/\w'.os=w.os/\w'.tape=w.tape/\w'.output=w.output
section
variable {P:Program} {X:Ctx} {f:Fr} {s s':St} {η:Nat->Value} {H:aV} {a:Act} {w:World}
structure Oz (Sp:oV) (a:Sp.α) (b:List Slot) (v:SV):Prop where
 out:∃y,wx (λ_=>Sp.post a y)/\PL (PJ b v) (Sp.res a y)
theorem Oz.mk' {Sp:oV} {a:Sp.α} {b:List Slot} {v:SV} (y:Sp.β) (h:PL (PJ b v) (Sp.res a y)) (hp:Sp.post a y):Oz Sp a b v:=⟨⟨y,⟨hp⟩,h⟩⟩
structure WR (PP:Unit->Program) (X:Ctx) (lv:Nat) (fn:Func) (Sp:oV) (a:Sp.α):Prop where
 out:match fn.body with
  | some c=>vc PP X lv c (start (Sp.args a) fn.ntmps []) (wz X fn.results.toList (Oz Sp a))
  | none=>False
theorem abQ {PP:Unit->Program} {X:Ctx} (C:X.Ok (PP ())) (IL:lI X) {lv:Nat} {fid:FuncId} {fn:Func} (F:kJ (PP ()) fid fn) (j7:l8 fn=true) {S:oV}
  (bY:∀a,bX (S.args a)) (gu:∀a y,LF (S.res a y)) (h0:∀a,S.pre a->WR PP X lv fn S a):rq PP fid S where
 lf:=bY
 lr:=gu
 run:=λα dU H F0 w vals hH hF jd=>by
  obtain ⟨c,hb⟩:=qP.1 F.body
  have hc:codeOk c=true:=by unfold l8 at j7;rw [hb] at j7;exact j7
  have h:=(h0 α dU).out
  rw [hb] at h
  let f:Fr:={ F:=F0,H0:=H,w0:=w }
  have D:Den f ⟨S.args α,[]⟩ (λ_=>.nilIface) H { tmps:=vals.toArray,defers:=[] } w:={
   t:=cQ.up (aV.le.refl H) jd
   sv:=by simp [f,aK]
   d:=rfl
   h0:=aV.le.refl H
   hw:=hH
   fw:=hF
   hf:=λb hb=>.inl hb
   sl:=λl x hx=>by simp at hx
   dj:=λl l' b h=>by simp [aN] at h
   dh:=λl b h=>by simp [aN] at h
   os:=rfl
   tape:=rfl
   out:=rfl }
  refine (BP C F hb (xA C IL hc h) f _ H _ w rfl rfl D).mono ?_
  rintro e w' ⟨v,b',η',H',xv,rfl,⟨y,hp,hk⟩,D2,h2⟩
  let G:aV:=λb=>match H' b with
   | some o=>some o
   | none=>match F0 b with
    | some _=>none
    | none=>w'.heap[b]?
  have hle:H'.le G:=λb o hb=>by simp only [G];rw [hb]
  have hG:G.gV w':=λb o hb=>by
   simp only [G] at hb
   split at hb
   ·rename_i o' ho;simp at hb;subst hb;exact D2.hw b _ ho
   ·split at hb
    ·cases hb
    ·exact hb
  have Ce:tJ D2 G:=⟨hle,λl b hl hb=>by
   obtain ⟨e1,e2⟩:=D2.dh l b hl hb
   have kS:F0 b=none:=e2
   simp only [G,e1,kS]⟩
  have h3:=zH Ce 6 _ _ h2
  have h4:=r9 hk.out h3
  refine ⟨y,v,G,hp.out,rfl,D2.h0.trans hle,hG,D2.fw,λb hb=>?_,oh _ _ (gu α y) h4,D2.os,D2.tape,D2.out⟩
  by_cases wU:F0 b=none
  ·exact .inr wU
  ·left
   have gF:H' b≠none:=by
    intro e
    apply hb
    simp only [G,e]
    cases hq:F0 b with
    | none=>exact absurd hq wU
    | some _=>rfl
   rcases D2.hf b gF with h|h
   ·exact h
   ·exact absurd h wU
theorem iP.of {P:Unit->Program} {fid:FuncId} {Sp:oV} (I:rq P fid Sp) {S args:List SV} {b:List Slot} {k:List Slot->SV->Prop} (a:Sp.α)
  (lH:(cM (args.map (view b)) (Sp.args a)/\((∀y,(Sp.res a y).scalar=true)\/pz args=false))\/cM (uI args) (Sp.args a))
  (dU:wx λ_=>Sp.pre a) (hk:∀y,Hyp (λ_=>Sp.post a y)->k b (Sp.res a y)):iP S P fid args b k:=by
 refine ⟨λf η H ac w hS hd D=>?_⟩
 have fin:∀(Hc:aV),Hc.gV w->cQ Hc (Sp.args a) ac.tmps.toList ->
   (∀H' w' v y,Hc.le H'->H'.gV w'->w.grownBy w' none->(∀b,H' b≠none->Hc b≠none\/w.heap.size<=b)->ox H' (Sp.res a y) v->∃H2,Den f ⟨args,b⟩ η H2 ac w'/\rel η (aN b) H2 (Sp.res a y) v)->Calls (P ()) fid ac.tmps w (yo f k):=by
  intro Hc dq jd nA
  have:=I.run a dU.out Hc (gR w) w _ dq (xq w) jd
  rw [DY] at this
  refine this.mono λe w' ⟨y,v,H',hp,he,g1,g2,g3,g4,g5,g6,g7,g8⟩=>?_
  have fR:=Hd g3 g6 g7 g8
  obtain ⟨H2,D',hr⟩:=nA H' w' v y g1 g2 fR (λb hb=>by
   rcases g4 b hb with h|h
   ·exact .inl h
   ·right
    unfold gR at h
    simpa using h) g5
  have wO:(⟨#[],[]⟩:Act).defers=f.dS.map Ca:=by rw [hd];rfl
  exact ⟨v,b,η,H2,_,he,hk y ⟨hp⟩,{ D' with t:=by simp [aK],d:=wO },hr⟩
 have ht:aK η (aN b) H args ac.tmps.toList:=D.t
 have plain:cM args (Sp.args a)->Calls (P ()) fid ac.tmps w (yo f k):=λhle=>by
  refine fin H D.hw (ja _ _ (I.lf a) (iw hle ht)) ?_
  intro H' w' v y sw dq fR b9 gu
  exact ⟨H',D.share fR sw dq b9,ox.up (aV.le.refl H') gu⟩
 rcases lH with ⟨hle,ri|hl⟩|hle
 ·have IP:aK η (aN b) (gR w) (args.map (view b)) ac.tmps.toList:=by
   have:∀(xs:List SV) (vs:List Value),aK η (aN b) H xs vs->aK η (aN b) (gR w) (xs.map (view b)) vs:=by
    intro xs
    induction xs with
    | nil=>intro vs h;simpa [aK] using h
    | cons c r ih =>
     intro vs h
     simp only [aK,gS] at h ⊢
     obtain ⟨u,us,h1,h2,h3⟩:=h
     exact ⟨u,us,h1,zH (tJ.world D) 4 c u h2,ih us h3⟩
   exact this _ _ ht
  refine fin (gR w) (xq w) (ja _ _ (I.lf a) (iw hle IP)) ?_
  intro H' w' v y _ _ fR _ gu
  exact ⟨H,D.grown fR,Ln _ _ (ri y) gu⟩
 ·rw [MA b _ hl] at hle
  exact plain hle
 ·refine fin H D.hw (ja _ _ (I.lf a) (iw hle (zi _ _ ht))) ?_
  intro H' w' v y sw dq fR b9 gu
  exact ⟨H',D.share fR sw dq b9,ox.up (aV.le.refl H') gu⟩
theorem iP.rel {P:Unit->Program} {fid:FuncId} {Sp:oV} (I:rq P fid Sp) {S args:List SV} {b:List Slot} {k:List Slot->SV->Prop} (a:Sp.α)
 (lH:cM (uI args) (Sp.args a)) (dU:wx λ_=>Sp.pre a) (hk:∀y,Hyp (λ_=>Sp.post a y)->k b (Sp.res a y)):iP S P fid args b k:=.of I a (.inr lH) dU hk
end
section
variable {P:Program} {X:Ctx} {f:Fr} {s s':St} {η:Nat->Value} {H:aV} {a:Act} {w:World} {S:List SV} {r:Bool}
def ya (l:Nat) (x:SV):SV:=match iF (λm=>Nat.beq m l) x with
 | true=>.any
 | false=>x
def xM (l:Nat):Slot->Slot
 | .fix e cs=>.fix e (cs.map (ya l))
 | .e7 e c xs i ys=>.e7 e c xs i (ys.map (ya l))
 | x=>x
def St.kill (l:Nat) (s:St):St:=match s.b[l]? with
 | some .un=>s
 | some _=>⟨s.t.map (ya l),(s.b.map (xM l)).set l .dead⟩
 | none=>s
theorem Ue (l:Nat) (x:SV):Le x (ya l x):=by
 unfold ya
 split
 ·exact .any _
 ·exact .refl _
theorem MK (l:Nat):∀xs:List SV,o8 xs (xs.map (ya l))
 | []=>trivial
 | x :: r=>by
  have:=Ue l x
  simp only [gS,o8]
  split
  ·exact MK l r
  ·exact ⟨this,MK l r⟩
theorem ML (l:Nat):∀xs:List SV,cM xs (xs.map (ya l))
 | []=>.nil
 | x :: r=>.cons (Ue l x) (ML l r)
theorem Uf (l:Nat):∀(b:List Slot) (j:Nat),(∀i x,b[i]?=some x->i+j=l->IY x)->lW b (match Nat.ble j l with|true=>(b.map (xM l)).set (l - j) .dead|false=>b.map (xM l))
 | [],j,_=>by split<;>trivial
 | x :: r,j,h=>by
  have ih:=Uf l r (j+1) λi y hy hi=>h (i+1) y (by simpa using hy) (by omega)
  have slot:cj x (xM l x):=by
   cases x<;>first|exact cj.refl _|exact cj.fix (ML l _)|exact cj.e7 rfl rfl (ML l _)
  have unf:∀(y:Slot) (ys:List Slot),(y=.dead->IY x)->(y=.un->XE x)->cj x y->lW r ys->lW (x :: r) (y :: ys):=by
   intro y ys h1 h2 h3 h4
   cases y<;>first|exact ⟨h1 rfl,h4⟩|exact ⟨h2 rfl,h4⟩|exact ⟨h3,h4⟩
  have Ct:∀ys,lW r ys->lW (x :: r) (xM l x :: ys):=λys mO=>by
   refine unf _ _ (λe=>?_) (λe=>?_) slot mO
   ·cases x<;>first|trivial|(simp [xM] at e)
   ·cases x<;>first|trivial|(simp [xM] at e)
  by_cases hj:j < l
  ·have e1:Nat.ble j l=true:=tl (by omega)
   have e2:Nat.ble (j+1) l=true:=tl (by omega)
   rw [e2] at ih
   rw [e1]
   simp only [gS]
   rw [show l - j=(l - (j+1))+1 by omega,HC]
   exact Ct _ ih
  ·have e2:Nat.ble (j+1) l=false:=by
    cases e:Nat.ble (j+1) l with
    | false=>rfl
    | true=>have:=BO e;omega
   rw [e2] at ih
   by_cases e8:j=l
   ·subst e8
    have e1:Nat.ble j j=true:=tl (fT _)
    rw [e1]
    simp only [gS,xx,List.set_cons_zero]
    exact ⟨h 0 x (by simp) (by omega),ih⟩
   ·have e1:Nat.ble j l=false:=by
     cases e:Nat.ble j l with
     | false=>rfl
     | true=>have:=BO e;omega
    rw [e1]
    simp only [gS]
    exact Ct _ ih
theorem Sat.kill {P:Unit->Program} {c:Code} {k:Exit->St->Prop} (l:Nat) (h:Sat S r P c (s.kill l) k):Sat S r P c s k:=by
 have main:(∀y,s.b[l]?=some y->IY y)->Sat S r P c ⟨s.t.map (ya l),(s.b.map (xM l)).set l .dead⟩ k->Sat S r P c s k:=λhn h=>by
  refine Sat.weaken ⟨MK l s.t,?_⟩ h
  have:=Uf l s.b 0 λi y hy hi=>by
   have:i=l:=by omega
   subst this
   exact hn y hy
  have e1:Nat.ble 0 l=true:=tl (cP _)
  rw [e1] at this
  exact this
 unfold St.kill at h
 cases hb:s.b[l]? with
 | none=>rw [hb] at h;exact h
 | some x =>
  rw [hb] at h
  cases x with
  | un=>exact h
  | _=>exact main (λy hy=>by rw [hb] at hy;cases hy;trivial) h
end
mutual
theorem MM (g:Nat->Nat):∀x:SV,LF x->eA g x=x
 | .ptr ..,h=>h.elim
 | .fq ..,h=>h.elim
 | .own _,h=>h.elim
 | .et ..,h=>h.elim
 | .fy _,h=>h.elim
 | .fK _,h=>h.elim
 | .agg cs,h=>by simp only [LF] at h;simp only [eA,zK g cs h]
 | .ca cs,h=>by simp only [LF] at h;simp only [eA,zK g cs h]
 | .dO cs n,h=>by simp only [LF] at h;simp only [eA,zK g cs h]
 | .dg cs off,h=>by simp only [LF] at h;simp only [eA,zK g cs h]
 | .fn f x y,h=>by simp only [LF] at h;simp only [eA,zK g x h.1,zK g y h.2]
 | .lu t x,h=>by simp only [LF] at h;simp only [eA,MM g x h]
 | .sl ..,_=>by rw [eA]
 | .fA ..,_=>by rw [eA]
 | .mp ..,_=>by rw [eA]
 | .opt ..,_=>by rw [eA]
 | .any,_=>by rw [eA]
 | .cell,_=>by rw [eA]
 | .bc _,_=>by rw [eA]
 | .b _,_=>by rw [eA]
 | .nb _ _,_=>by rw [eA]
 | .ic _ _,_=>by rw [eA]
 | .i _ _,_=>by rw [eA]
 | .str _,_=>by rw [eA]
 | .v _,_=>by rw [eA]
 | .cH,_=>by rw [eA]
theorem zK (g:Nat->Nat):∀xs:List SV,bX xs->oB g xs=xs
 | [],_=>rfl
 | x :: r,h=>by simp only [bX] at h;simp only [oB,MM g x h.1,zK g r h.2]
end
theorem iP.ue {P:Unit->Program} {fid:FuncId} {Sp:oj} (I:ma P fid Sp) (bY:∀a y,LF (Sp.res a y)) {S args:List SV} {b:List Slot} {k:List Slot->SV->Prop} (a:Sp.α) (L:List Nat)
  (jf:Ap (Sp.io a) L b.length []=true) (lH:cM args (oB (ud L b.length) (Sp.args a))) (PM:lW b (sf (ud L b.length) (λ_=>false) 0 (Sp.io a) b))
  (dU:wx λ_=>Sp.pre a) (hk:∀y,Hyp (λ_=>Sp.post a y)->k (M5 b L Sp.mv (Sp.lz a y)) (Sp.res a y)):iP S P fid args b k :=
 .io I a L jf lH PM dU λy hy=>by rw [MM _ _ (bY a y)];exact hk y hy
theorem fj {p:Prop} (h:p:=by ((repeat' first|exact cM.nil|exact Le.refl _|refine cM.cons ?_ ?_|exact Le.ic rfl|exact Le.bc rfl|exact Le.i rfl|exact Le.b rfl|exact Le.sl rfl|exact Le.mp rfl|exact Le.fA rfl|exact Le.oq rfl|refine Le.cH rfl (λ_=>?_)|refine Le.dO rfl (λ_ _=>rfl) (λ_=>?_) ?_|refine Le.agg ?_|refine Le.ca ?_|refine Le.fn ?_ ?_|refine Le.dg ?_|exact trivial|refine And.intro ?_ ?_|refine λ_=>?_|exact Le.any _))<;>first|exact Le.i (by with_reducible assumption)|exact Le.i (lE (by with_reducible assumption))|exact Le.sl (by with_reducible assumption)|exact Le.sl (lE (by with_reducible assumption))|exact Le.ic (by with_reducible assumption)|exact Le.ic (lE (by with_reducible assumption))|exact Le.b (by with_reducible assumption)|exact Le.b (lE (by with_reducible assumption))|exact Le.bc (by with_reducible assumption)|exact Le.i (by assumption)|exact Le.i (lE (by assumption))|exact Le.sl (by assumption)|exact Le.sl (lE (by assumption))|exact Le.b (by assumption)|exact Le.b (lE (by assumption))):p:=h
theorem aX {p:Prop} (h:p:=by ((try cbv)<;>(repeat' (first|with_reducible exact trivial|with_reducible refine And.intro ?_ ?_))<;>(try first|exact cj.refl _|exact cj.dyn rfl|exact cj.map rfl|exact cj.iter rfl rfl (.inl rfl)|exact cj.iter rfl rfl (.inr rfl)|refine cj.fix ?_|refine cj.dyn ?_)<;>((repeat' first|exact cM.nil|exact Le.refl _|refine cM.cons ?_ ?_|exact Le.ic rfl|exact Le.bc rfl|exact Le.i rfl|exact Le.b rfl|exact Le.sl rfl|exact Le.mp rfl|exact Le.fA rfl|exact Le.oq rfl|refine Le.cH rfl (λ_=>?_)|refine Le.dO rfl (λ_ _=>rfl) (λ_=>?_) ?_|refine Le.agg ?_|refine Le.ca ?_|refine Le.fn ?_ ?_|refine Le.dg ?_|exact trivial|refine And.intro ?_ ?_|refine λ_=>?_|exact Le.any _)))<;>first|exact Le.i (by with_reducible assumption)|exact Le.i (lE (by with_reducible assumption))|exact Le.sl (by with_reducible assumption)|exact Le.sl (lE (by with_reducible assumption))|exact Le.ic (by with_reducible assumption)|exact Le.ic (lE (by with_reducible assumption))|exact Le.b (by with_reducible assumption)|exact Le.b (lE (by with_reducible assumption))|exact Le.bc (by with_reducible assumption)|exact Le.i (by assumption)|exact Le.i (lE (by assumption))|exact Le.sl (by assumption)|exact Le.sl (lE (by assumption))|exact Le.b (by assumption)|exact Le.b (lE (by assumption))):p:=h
theorem aY {p:Prop} (h:p:=by ((try cbv)<;>((repeat' first|exact cM.nil|exact Le.refl _|refine cM.cons ?_ ?_|exact Le.ic rfl|exact Le.bc rfl|exact Le.i rfl|exact Le.b rfl|exact Le.sl rfl|exact Le.mp rfl|exact Le.fA rfl|exact Le.oq rfl|refine Le.cH rfl (λ_=>?_)|refine Le.dO rfl (λ_ _=>rfl) (λ_=>?_) ?_|refine Le.agg ?_|refine Le.ca ?_|refine Le.fn ?_ ?_|refine Le.dg ?_|exact trivial|refine And.intro ?_ ?_|refine λ_=>?_|exact Le.any _)))<;>first|exact Le.i (by with_reducible assumption)|exact Le.i (lE (by with_reducible assumption))|exact Le.sl (by with_reducible assumption)|exact Le.sl (lE (by with_reducible assumption))|exact Le.ic (by with_reducible assumption)|exact Le.ic (lE (by with_reducible assumption))|exact Le.b (by with_reducible assumption)|exact Le.b (lE (by with_reducible assumption))|exact Le.bc (by with_reducible assumption)|exact Le.i (by assumption)|exact Le.i (lE (by assumption))|exact Le.sl (by assumption)|exact Le.sl (lE (by assumption))|exact Le.b (by assumption)|exact Le.b (lE (by assumption))):p:=h
theorem ga {S:List SV} {r:Bool} {P:Unit->Program} {c:Code} {s:Vc.St} {k:Exit->Vc.St->Prop} (n:Nat) (s':Vc.St) (h0:o8 (s.cut n).t s'.t) (pH:lW (s.cut n).b s'.b)
 (h:Sat S r P c s' k) (hn:lg (Nat.ble n) S=false:=by rfl):Sat S r P c s k:=⟨λF R f η H a w hS D=>h.out F R f η H a w hS ((D.cut n (by rw [hS];exact hn)).weaken ⟨h0,pH⟩)⟩
theorem xN {G:Prop} (T:Code->(Exit->Vc.St->Prop)->Prop) {c:Code} {k:Exit->Vc.St->Prop} (main:T c k->G) (tail:T c k):G:=main tail
def OA (P:Program) (f:FuncId) (S:Spec):Prop:=∀a,S.pre a->∀(H F:aV) (w:World) (vals:List Value),H.gV w->F.gV w->cQ H (S.args a) vals ->
 Calls P f vals.toArray w λe w'=>∃v N,e=.returned v/\H.gV w'/\F.gV w'/\aV.gV N w'/\(∀b,N b≠none->H b=none/\F b=none)/\ox N (S.res a) v /\
  w'.os=w.os/\w'.tape=w.tape/\w'.output=w.output
theorem OA.spec {P:Program} {f:FuncId} {S:Spec} (I:OA P f S) {fn:Func} (F:kJ P f fn) (bY:∀a,bX (S.args a)) (gu:∀a,LF (S.res a)):dw P f S where
 fn:=⟨fn,F⟩
 lf:=bY
 lr:=gu
 fresh:=λ_=>I
 run:=λa hp H F w vals hH hF hr=>by
  refine (I a hp H F w vals hH hF hr).mono ?_
  rintro e w' ⟨v,N,he,g1,g2,g3,g4,g5,g6,g7,g8⟩
  let G:aV:=λb=>match H b with
   | some o=>some o
   | none=>N b
  have Pr:N.le G:=λb o hb=>by
   have:=(g4 b (by rw [hb];simp)).1
   simp only [G,this];exact hb
  refine ⟨v,G,he,λb o hb=>by simp only [G];rw [hb],λb o hb=>?_,g2,λb hb=>?_,rV (gD.refl _ _) Pr _ _ g5,g6,g7,g8⟩
  ·simp only [G] at hb
   split at hb
   ·rename_i o' ho;simp at hb;subst hb;exact g1 b _ ho
   ·exact g3 b o hb
  ·cases hq:H b with
   | some o=>exact .inl (by simp)
   | none =>
    right
    exact (g4 b (by simpa only [G,hq] using hb)).2
section
variable {P:Program} {X:Ctx} {f:Fr} {s s':St} {η:Nat->Value} {H:aV} {a:Act} {w:World}
structure aiW (r:SV) (b:List Slot) (v:SV):Prop where
 out:match v with
  | .own l=>(match b[l]? with
   | some (.dyn e sz c xs)=>Le (.sl sz c xs) r/\∀x,xR (c x)=true
   | _=>False)
  | .et l AE g n=>(match b[l]? with
   | some (.dyn e sz c xs)=>AE=sz/\n ()<=(xs ()).length/\Le (.sl sz c λ_=>((xs ()).take (n ())).drop (g ())) r/\∀x,xR (c x)=true
   | _=>False)
  | _=>False
structure WS (PP:Unit->Program) (X:Ctx) (lv:Nat) (fn:Func) (args:List SV) (res:SV):Prop where
 out:match fn.body with
  | some c=>vc PP X lv c (start args fn.ntmps []) (wz X fn.results.toList (aiW res))
  | none=>False
theorem abR {PP:Unit->Program} {X:Ctx} (C:X.Ok (PP ())) (IL:lI X) {lv:Nat} {fid:FuncId} {fn:Func} (F:kJ (PP ()) fid fn) (j7:l8 fn=true) {S:Spec}
  (bY:∀a,bX (S.args a)) (gu:∀a,LF (S.res a)) (h0:∀a,S.pre a->WS PP X lv fn (S.args a) (S.res a)):dw (PP ()) fid S:=by
 refine OA.spec (λα dU H F0 w vals hH hF jd=>?_) F bY gu
 ·obtain ⟨c,hb⟩:=qP.1 F.body
  have hc:codeOk c=true:=by unfold l8 at j7;rw [hb] at j7;exact j7
  have h:=(h0 α dU).out
  rw [hb] at h
  let f:Fr:={ F:=F0,H0:=H,w0:=w }
  have D:Den f ⟨S.args α,[]⟩ (λ_=>.nilIface) H { tmps:=vals.toArray,defers:=[] } w:={
   t:=cQ.up (aV.le.refl H) jd
   sv:=by simp [f,aK]
   d:=rfl
   h0:=aV.le.refl H
   hw:=hH
   fw:=hF
   hf:=λb hb=>.inl hb
   sl:=λl x hx=>by simp at hx
   dj:=λl l' b h=>by simp [aN] at h
   dh:=λl b h=>by simp [aN] at h
   os:=rfl
   tape:=rfl
   out:=rfl }
  refine (BP C F hb (xA C IL hc h) f _ H _ w rfl rfl D).mono ?_
  rintro e w' ⟨v,b',η',H',xv,rfl,hk,D2,h2⟩
  have hk:=hk.out
  have fin:∀{T:Type} (sz:Nat) (c:T->List SV) (xs:Unit->List T) (l:Nat) (v:Value),aN b' l=.live->rel η' (aN b') (gR w') (.sl sz c xs) v->(∀x,xR (c x)=true)->Le (.sl sz c xs) (S.res α) ->
    (∀ad n cp,v=.slice (some ad) n cp->0 < n->n<=cp->bS (η' l)=some ad.block)->∃v' N,Ending.returned v=.returned v'/\H.gV w'/\F0.gV w'/\aV.gV N w'/\(∀b,N b≠none->H b=none/\F0 b=none)/\ox N (S.res α) v' /\
     w'.os=w.os/\w'.tape=w.tape/\w'.output=w.output:=by
   intro T sz c xs l v hq h3 ri Fy jk
   let N:aV:=λb=>if bS (η' l)=some b then w'.heap[b]? else none
   have hN:ox N (.sl sz c xs) v:=by
    simp only [rel] at h3 ⊢
    obtain ⟨⟨ad,cap,h1,h0,h2⟩,bY⟩:=h3
    refine ⟨⟨ad,cap,h1,h0,?_⟩,bY⟩
    rcases h2 with h|⟨a,ha,hs,e6⟩
    ·exact .inl h
    ·by_cases FZ:xs ()=[]
     ·exact .inl FZ
     ·refine .inr ⟨a,ha,hs,λj x hj=>?_⟩
      obtain ⟨vals,g1,g2,g3⟩:=e6 j x hj
      have kL:0 < (xs ()).length:=List.length_pos_iff.2 FZ
      have hblk:bS (η' l)=some a.block:=jk a _ cap (by rw [h1,ha]) kL h0
      refine ⟨vals,g1,Hl _ _ (ri x) g2,λi u hu=>?_⟩
      have:=g3 i u hu
      unfold oo at this ⊢
      simp only [N,hblk,if_true]
      exact this
   refine ⟨_,N,rfl,λb o hb=>D2.hw b o (D2.h0 b o hb),D2.fw,λb o hb=>?_,λb hb=>?_,r9 Fy hN,D2.os,D2.tape,D2.out⟩
   ·simp only [N] at hb
    split at hb
    ·exact hb
    ·cases hb
   ·simp only [N] at hb
    split at hb
    ·rename_i pB
     obtain ⟨e1,e2⟩:=D2.dh l b hq pB
     refine ⟨?_,e2⟩
     cases hHb:H b with
     | none=>rfl
     | some o=>have:=D2.h0 b o hHb;rw [e1] at this;cases this
    ·exact absurd rfl hb
  have Ce:tJ D2 (gR w'):=tJ.world D2
  split at hk
  case h_3=>exact hk.elim
  ·rename_i l _
   split at hk
   case h_2=>exact hk.elim
   rename_i T e sz c xs hx
   obtain ⟨Fy,ri⟩:=hk
   have hq:aN b' l=.live:=bR hx
   simp only [rel,hq] at h2
   obtain ⟨hv,fV⟩:=h2
   subst hv
   have h3:=zH Ce 6 (.own l) (η' l) (by simp only [rel];rw [show aN (St.mk [] b').b l=.live from hq];exact ⟨trivial,fV⟩)
   simp only [gU,hx] at h3
   refine fin sz c xs l _ hq h3 ri Fy λad n cp h1 hn hc=>?_
   rw [h1];simp only [bS];rw [if_neg (by omega)]
  ·rename_i l AE g n _
   split at hk
   case h_2=>exact hk.elim
   rename_i T e sz c xs hx
   obtain ⟨rfl,YK,Fy,ri⟩:=hk
   have hq:aN b' l=.live:=bR hx
   have h3:=zH Ce 6 (.et l AE g n) _ h2
   simp only [gU,hx,Me] at h3
   simp only [rel,hq] at h2
   obtain ⟨Pk,nn,c0,he,va,qo,kB,c',hv,-,Ka,-⟩:=h2
   obtain ⟨vals,jF,-⟩:=D2.sl l _ hx
   refine fin AE c _ l _ hq h3 ri Fy λad k cp h1 hn hc=>?_
   rw [hv] at h1
   cases h1
   obtain ⟨bl,h5,h6⟩:=Ka (by omega)
   cases h6
   rw [he,h5]
   rcases jF with ⟨-,bL⟩|⟨⟨ad2,h7⟩,h8,-⟩
   ·have:c0≠0:=λe0=>bL Pk nn (by rw [he,e0])
    simp only [bS];rw [if_neg this]
   ·rw [he] at h7;cases h7;omega
end
end Go.Vc
